/- What bytes are which thing: plain functions; what is read is written as it was. -/
import Derived.Test.YtddpmpbngcbokaaGreatDoorData
namespace Go.Proofs.YtddpmpbngcbokaaGreatDoor
set_option maxRecDepth 100000


def dec8 (l : List UInt8) : Nat := l.foldl (fun n c => n * 256 + c.toNat) 0
def splitN : Nat → List UInt8 → Option (List (List UInt8))
  | 0, b => if b = [] then some [] else none
  | n + 1, b => if b.length < 8 then none else if b.length - 8 < dec8 (b.take 8) then none else (splitN n (b.drop (8 + dec8 (b.take 8)))).map fun r => (b.drop 8).take (dec8 (b.take 8)) :: r
def split (b : List UInt8) : Option (List (List UInt8)) := if b.length < 8 then none else splitN (dec8 (b.take 8)) (b.drop 8)

theorem foldl_lt (l : List UInt8) : ∀ (n k : Nat), n < 256 ^ k → l.foldl (fun n c => n * 256 + c.toNat) n < 256 ^ (k + l.length) := by
  induction l with
  | nil => intro n k h; simpa using h
  | cons c r ih =>
    intro n k h
    have hc : c.toNat < 256 := c.toNat_lt
    have := ih (n * 256 + c.toNat) (k + 1) (by rw [Nat.pow_succ]; omega)
    simp only [List.foldl_cons, List.length_cons]
    rwa [show k + (r.length + 1) = k + 1 + r.length by omega]
theorem dec8_lt {l : List UInt8} (h : l.length = 8) : dec8 l < 18446744073709551616 := by
  have := foldl_lt l 0 0 (by decide)
  rw [h] at this
  exact this
theorem be8_dec8 {l : List UInt8} (h : l.length = 8) : be8 (dec8 l : Int) = l := by
  match l, h with
  | [a, b, c, d, e, f, g, i], _ =>
    have ha := a.toNat_lt; have hb := b.toNat_lt; have hc := c.toNat_lt; have hd := d.toNat_lt
    have he := e.toNat_lt; have hf := f.toNat_lt; have hg := g.toNat_lt; have hi := i.toNat_lt
    have key : ∀ (n k : Nat) (u : UInt8), n < 18446744073709551616 → n / 2 ^ (8 * k) % 256 = u.toNat → byteAt (n : Int) k = u := by
      intro n k u hn h
      unfold byteAt
      have e1 : ((n : Int) % 18446744073709551616).toNat = n := by omega
      rw [e1, h]
      simp
    have hn : dec8 [a, b, c, d, e, f, g, i] = ((((((a.toNat * 256 + b.toNat) * 256 + c.toNat) * 256 + d.toNat) * 256 + e.toNat) * 256 + f.toNat) * 256 + g.toNat) * 256 + i.toNat := by simp [dec8]
    rw [hn]
    unfold be8
    rw [key _ 7 a (by omega) (by simp <;> omega), key _ 6 b (by omega) (by simp <;> omega), key _ 5 c (by omega) (by simp <;> omega), key _ 4 d (by omega) (by simp <;> omega), key _ 3 e (by omega) (by simp <;> omega), key _ 2 f (by omega) (by simp <;> omega), key _ 1 g (by omega) (by simp <;> omega), key _ 0 i (by omega) (by simp <;> omega)]
theorem splitN_join : ∀ (n : Nat) (b : List UInt8) (l : List (List UInt8)), splitN n b = some l → l.length = n ∧ joinTail l = b
  | 0, b, l, h => by
    unfold splitN at h
    split at h
    · cases h; subst_vars; exact ⟨rfl, rfl⟩
    · cases h
  | n + 1, b, l, h => by
    unfold splitN at h
    split at h
    · cases h
    · split at h
      · cases h
      · rename_i h8 hm
        cases hr : splitN n (b.drop (8 + dec8 (b.take 8))) with
        | none => rw [hr] at h; cases h
        | some r =>
          rw [hr] at h
          simp only [Option.map_some, Option.some.injEq] at h
          subst h
          obtain ⟨h1, h2⟩ := splitN_join n _ r hr
          refine ⟨by simp [h1], ?_⟩
          have hl8 : (b.take 8).length = 8 := by simp; omega
          have hlm : ((b.drop 8).take (dec8 (b.take 8))).length = dec8 (b.take 8) := by simp; omega
          simp only [joinTail, hlm, h2]
          rw [be8_dec8 hl8]
          have e : b.drop (8 + dec8 (b.take 8)) = (b.drop 8).drop (dec8 (b.take 8)) := by rw [List.drop_drop]
          rw [e, List.append_assoc, List.take_append_drop, List.take_append_drop]
theorem split_join {b : List UInt8} {l : List (List UInt8)} (h : split b = some l) : join l = b := by
  unfold split at h
  split at h
  · cases h
  · rename_i h8
    obtain ⟨h1, h2⟩ := splitN_join _ _ _ h
    unfold join
    rw [h1, h2, be8_dec8 (by simp; omega), List.take_append_drop]
theorem splitN_few : ∀ (n : Nat) (b : List UInt8), b.length < 8 * n → splitN n b = none
  | 0, b, h => by omega
  | n + 1, b, h => by
    unfold splitN
    split
    · rfl
    · split
      · rfl
      · rw [splitN_few n _ (by simp; omega)]; rfl

def toI (n : Nat) : Int := if n < 9223372036854775808 then (n : Int) else (n : Int) - 18446744073709551616
def dI64 (b : List UInt8) : Option Int := if b.length = 8 then some (toI (dec8 b)) else none
def dU64 (b : List UInt8) : Option Int := if b.length = 8 then some (dec8 b : Int) else none
def dDig (b : List UInt8) : Option Dig := if b.length = 32 then some (fun i => b.getD i 0) else none
def dBool (b : List UInt8) : Option Bool := if b = [0] then some false else if b = [1] then some true else none
def mapO {α : Type} (d : List UInt8 → Option α) : List (List UInt8) → Option (List α)
  | [] => some []
  | b :: r => match d b, mapO d r with | some x, some l => some (x :: l) | _, _ => none
def dList {α : Type} (d : List UInt8 → Option α) (b : List UInt8) : Option (List α) := (split b).bind (mapO d)
def dInts (b : List UInt8) : Option (List Int) := dList dI64 b

theorem be8_toI (n : Nat) : be8 (toI n) = be8 (n : Int) := by
  unfold toI
  split
  · rfl
  · rw [← be8_mod ((n : Int) - 18446744073709551616), ← be8_mod (n : Int)]
    congr 1
    omega
theorem dI64_back {b : List UInt8} {x : Int} (h : dI64 b = some x) : be8 x = b := by
  unfold dI64 at h
  split at h
  · rename_i h8; cases h; rw [be8_toI, be8_dec8 h8]
  · cases h
theorem dU64_back {b : List UInt8} {x : Int} (h : dU64 b = some x) : be8 x = b := by
  unfold dU64 at h
  split at h
  · rename_i h8; cases h; rw [be8_dec8 h8]
  · cases h
theorem dDig_back {b : List UInt8} {x : Dig} (h : dDig b = some x) : digB x = b := by
  unfold dDig at h
  split at h
  · rename_i h32
    cases h
    unfold digB
    apply List.ext_getElem
    · simp [h32]
    · intro i h1 h2; simp [h2]
  · cases h
theorem dBool_back {b : List UInt8} {x : Bool} (h : dBool b = some x) : eBool x = b := by
  unfold dBool at h
  split at h
  · cases h; subst_vars; rfl
  · split at h
    · cases h; subst_vars; rfl
    · cases h
theorem mapO_back {α : Type} {d : List UInt8 → Option α} {e : α → List UInt8} (h : ∀ b x, d b = some x → e x = b) : ∀ (l : List (List UInt8)) (xs : List α), mapO d l = some xs → xs.map e = l
  | [], xs, hm => by cases hm; rfl
  | b :: r, xs, hm => by
    unfold mapO at hm
    cases hb : d b with
    | none => rw [hb] at hm; cases hm
    | some x =>
      cases hr : mapO d r with
      | none => rw [hb, hr] at hm; cases hm
      | some l =>
        rw [hb, hr] at hm
        cases hm
        simp [h b x hb, mapO_back h r l hr]
theorem dList_back {α : Type} {d : List UInt8 → Option α} {e : α → List UInt8} (h : ∀ b x, d b = some x → e x = b) {b : List UInt8} {xs : List α} (hd : dList d b = some xs) : join (xs.map e) = b := by
  unfold dList at hd
  cases hs : split b with
  | none => rw [hs] at hd; cases hd
  | some l =>
    rw [hs] at hd
    rw [mapO_back h l xs hd, split_join hs]
theorem dInts_back {b : List UInt8} {x : List Int} (h : dInts b = some x) : eInts x = b := dList_back (fun _ _ h => dI64_back h) h

def dSigL : List (List UInt8) → Option DSig
  | [b0, b1] => (dI64 b0).bind fun y0 => (dDig b1).bind fun y1 => some ⟨y0, y1⟩
  | _ => none
def dSig (b : List UInt8) : Option DSig := (split b).bind dSigL
theorem dSigL_len {l : List (List UInt8)} (h : l.length ≠ 2) : dSigL l = none := by
  unfold dSigL
  split
  · exact absurd rfl h
  · rfl
theorem dSigL_some {b0 b1 : List UInt8} {y0 : Int} {y1 : Dig} (h0 : dI64 b0 = some y0) (h1 : dDig b1 = some y1) : dSigL [b0, b1] = some ⟨y0, y1⟩ := by simp only [dSigL, h0, h1, Option.bind_some]
theorem dSigL_isSome (b0 b1 : List UInt8) : (dSigL [b0, b1]).isSome = ((dI64 b0).isSome && (dDig b1).isSome) := by
  simp only [dSigL]
  cases dI64 b0 with
  | none => simp
  | some _ =>
    try simp only [Option.bind_some, Option.isSome_some, Bool.and_true, Bool.true_and]
    cases dDig b1 with
    | none => simp
    | some _ =>
      try simp only [Option.bind_some, Option.isSome_some, Bool.and_true, Bool.true_and]
      try rfl
theorem dSig_back {b : List UInt8} {x : DSig} (h : dSig b = some x) : eSig x = b := by
  unfold dSig at h
  cases hs : split b with
  | none => rw [hs] at h; cases h
  | some l =>
    rw [hs] at h
    simp only [Option.bind_some] at h
    rw [← split_join hs]
    unfold dSigL at h
    split at h
    · simp only [Option.bind_eq_some_iff, Option.some.injEq] at h
      obtain ⟨y0, h0, y1, h1, rfl⟩ := h
      unfold eSig
      simp only [dI64_back h0, dDig_back h1]
    · cases h
def dHeaderL : List (List UInt8) → Option DHeader
  | [b0, b1, b2, b3, b4, b5, b6, b7] => (dI64 b0).bind fun y0 => (dI64 b1).bind fun y1 => (dI64 b2).bind fun y2 => (dI64 b3).bind fun y3 => (dDig b4).bind fun y4 => (dDig b5).bind fun y5 => (dDig b6).bind fun y6 => (dI64 b7).bind fun y7 => some ⟨y0, y1, y2, y3, y4, y5, y6, y7⟩
  | _ => none
def dHeader (b : List UInt8) : Option DHeader := (split b).bind dHeaderL
theorem dHeaderL_len {l : List (List UInt8)} (h : l.length ≠ 8) : dHeaderL l = none := by
  unfold dHeaderL
  split
  · exact absurd rfl h
  · rfl
theorem dHeaderL_some {b0 b1 b2 b3 b4 b5 b6 b7 : List UInt8} {y0 : Int} {y1 : Int} {y2 : Int} {y3 : Int} {y4 : Dig} {y5 : Dig} {y6 : Dig} {y7 : Int} (h0 : dI64 b0 = some y0) (h1 : dI64 b1 = some y1) (h2 : dI64 b2 = some y2) (h3 : dI64 b3 = some y3) (h4 : dDig b4 = some y4) (h5 : dDig b5 = some y5) (h6 : dDig b6 = some y6) (h7 : dI64 b7 = some y7) : dHeaderL [b0, b1, b2, b3, b4, b5, b6, b7] = some ⟨y0, y1, y2, y3, y4, y5, y6, y7⟩ := by simp only [dHeaderL, h0, h1, h2, h3, h4, h5, h6, h7, Option.bind_some]
theorem dHeaderL_isSome (b0 b1 b2 b3 b4 b5 b6 b7 : List UInt8) : (dHeaderL [b0, b1, b2, b3, b4, b5, b6, b7]).isSome = ((((((((dI64 b0).isSome && (dI64 b1).isSome) && (dI64 b2).isSome) && (dI64 b3).isSome) && (dDig b4).isSome) && (dDig b5).isSome) && (dDig b6).isSome) && (dI64 b7).isSome) := by
  simp only [dHeaderL]
  cases dI64 b0 with
  | none => simp
  | some _ =>
    try simp only [Option.bind_some, Option.isSome_some, Bool.and_true, Bool.true_and]
    cases dI64 b1 with
    | none => simp
    | some _ =>
      try simp only [Option.bind_some, Option.isSome_some, Bool.and_true, Bool.true_and]
      cases dI64 b2 with
      | none => simp
      | some _ =>
        try simp only [Option.bind_some, Option.isSome_some, Bool.and_true, Bool.true_and]
        cases dI64 b3 with
        | none => simp
        | some _ =>
          try simp only [Option.bind_some, Option.isSome_some, Bool.and_true, Bool.true_and]
          cases dDig b4 with
          | none => simp
          | some _ =>
            try simp only [Option.bind_some, Option.isSome_some, Bool.and_true, Bool.true_and]
            cases dDig b5 with
            | none => simp
            | some _ =>
              try simp only [Option.bind_some, Option.isSome_some, Bool.and_true, Bool.true_and]
              cases dDig b6 with
              | none => simp
              | some _ =>
                try simp only [Option.bind_some, Option.isSome_some, Bool.and_true, Bool.true_and]
                cases dI64 b7 with
                | none => simp
                | some _ =>
                  try simp only [Option.bind_some, Option.isSome_some, Bool.and_true, Bool.true_and]
                  try rfl
theorem dHeader_back {b : List UInt8} {x : DHeader} (h : dHeader b = some x) : eHeader x = b := by
  unfold dHeader at h
  cases hs : split b with
  | none => rw [hs] at h; cases h
  | some l =>
    rw [hs] at h
    simp only [Option.bind_some] at h
    rw [← split_join hs]
    unfold dHeaderL at h
    split at h
    · simp only [Option.bind_eq_some_iff, Option.some.injEq] at h
      obtain ⟨y0, h0, y1, h1, y2, h2, y3, h3, y4, h4, y5, h5, y6, h6, y7, h7, rfl⟩ := h
      unfold eHeader
      simp only [dI64_back h0, dI64_back h1, dI64_back h2, dI64_back h3, dDig_back h4, dDig_back h5, dDig_back h6, dI64_back h7]
    · cases h
def dQCL : List (List UInt8) → Option DQC
  | [b0, b1, b2, b3, b4, b5] => (dI64 b0).bind fun y0 => (dI64 b1).bind fun y1 => (dI64 b2).bind fun y2 => (dDig b3).bind fun y3 => (dInts b4).bind fun y4 => (dList dSig b5).bind fun y5 => some ⟨y0, y1, y2, y3, y4, y5⟩
  | _ => none
def dQC (b : List UInt8) : Option DQC := (split b).bind dQCL
theorem dQCL_len {l : List (List UInt8)} (h : l.length ≠ 6) : dQCL l = none := by
  unfold dQCL
  split
  · exact absurd rfl h
  · rfl
theorem dQCL_some {b0 b1 b2 b3 b4 b5 : List UInt8} {y0 : Int} {y1 : Int} {y2 : Int} {y3 : Dig} {y4 : List Int} {y5 : List DSig} (h0 : dI64 b0 = some y0) (h1 : dI64 b1 = some y1) (h2 : dI64 b2 = some y2) (h3 : dDig b3 = some y3) (h4 : dInts b4 = some y4) (h5 : dList dSig b5 = some y5) : dQCL [b0, b1, b2, b3, b4, b5] = some ⟨y0, y1, y2, y3, y4, y5⟩ := by simp only [dQCL, h0, h1, h2, h3, h4, h5, Option.bind_some]
theorem dQCL_isSome (b0 b1 b2 b3 b4 b5 : List UInt8) : (dQCL [b0, b1, b2, b3, b4, b5]).isSome = ((((((dI64 b0).isSome && (dI64 b1).isSome) && (dI64 b2).isSome) && (dDig b3).isSome) && (dInts b4).isSome) && (dList dSig b5).isSome) := by
  simp only [dQCL]
  cases dI64 b0 with
  | none => simp
  | some _ =>
    try simp only [Option.bind_some, Option.isSome_some, Bool.and_true, Bool.true_and]
    cases dI64 b1 with
    | none => simp
    | some _ =>
      try simp only [Option.bind_some, Option.isSome_some, Bool.and_true, Bool.true_and]
      cases dI64 b2 with
      | none => simp
      | some _ =>
        try simp only [Option.bind_some, Option.isSome_some, Bool.and_true, Bool.true_and]
        cases dDig b3 with
        | none => simp
        | some _ =>
          try simp only [Option.bind_some, Option.isSome_some, Bool.and_true, Bool.true_and]
          cases dInts b4 with
          | none => simp
          | some _ =>
            try simp only [Option.bind_some, Option.isSome_some, Bool.and_true, Bool.true_and]
            cases dList dSig b5 with
            | none => simp
            | some _ =>
              try simp only [Option.bind_some, Option.isSome_some, Bool.and_true, Bool.true_and]
              try rfl
theorem dQC_back {b : List UInt8} {x : DQC} (h : dQC b = some x) : eQC x = b := by
  unfold dQC at h
  cases hs : split b with
  | none => rw [hs] at h; cases h
  | some l =>
    rw [hs] at h
    simp only [Option.bind_some] at h
    rw [← split_join hs]
    unfold dQCL at h
    split at h
    · simp only [Option.bind_eq_some_iff, Option.some.injEq] at h
      obtain ⟨y0, h0, y1, h1, y2, h2, y3, h3, y4, h4, y5, h5, rfl⟩ := h
      unfold eQC
      simp only [dI64_back h0, dI64_back h1, dI64_back h2, dDig_back h3, dInts_back h4, dList_back (fun _ _ h => dSig_back h) h5]
    · cases h
def dCommitL : List (List UInt8) → Option DCommit
  | [b0, b1] => (dList dHeader b0).bind fun y0 => (dQC b1).bind fun y1 => some ⟨y0, y1⟩
  | _ => none
def dCommit (b : List UInt8) : Option DCommit := (split b).bind dCommitL
theorem dCommitL_len {l : List (List UInt8)} (h : l.length ≠ 2) : dCommitL l = none := by
  unfold dCommitL
  split
  · exact absurd rfl h
  · rfl
theorem dCommitL_some {b0 b1 : List UInt8} {y0 : List DHeader} {y1 : DQC} (h0 : dList dHeader b0 = some y0) (h1 : dQC b1 = some y1) : dCommitL [b0, b1] = some ⟨y0, y1⟩ := by simp only [dCommitL, h0, h1, Option.bind_some]
theorem dCommitL_isSome (b0 b1 : List UInt8) : (dCommitL [b0, b1]).isSome = ((dList dHeader b0).isSome && (dQC b1).isSome) := by
  simp only [dCommitL]
  cases dList dHeader b0 with
  | none => simp
  | some _ =>
    try simp only [Option.bind_some, Option.isSome_some, Bool.and_true, Bool.true_and]
    cases dQC b1 with
    | none => simp
    | some _ =>
      try simp only [Option.bind_some, Option.isSome_some, Bool.and_true, Bool.true_and]
      try rfl
theorem dCommit_back {b : List UInt8} {x : DCommit} (h : dCommit b = some x) : eCommit x = b := by
  unfold dCommit at h
  cases hs : split b with
  | none => rw [hs] at h; cases h
  | some l =>
    rw [hs] at h
    simp only [Option.bind_some] at h
    rw [← split_join hs]
    unfold dCommitL at h
    split at h
    · simp only [Option.bind_eq_some_iff, Option.some.injEq] at h
      obtain ⟨y0, h0, y1, h1, rfl⟩ := h
      unfold eCommit
      simp only [dList_back (fun _ _ h => dHeader_back h) h0, dQC_back h1]
    · cases h
def dFactL : List (List UInt8) → Option DFact
  | [b0, b1, b2, b3, b4] => (dCommit b0).bind fun y0 => (dDig b1).bind fun y1 => (some b2).bind fun y2 => (dBool b3).bind fun y3 => (some b4).bind fun y4 => some ⟨y0, y1, y2, y3, y4⟩
  | _ => none
def dFact (b : List UInt8) : Option DFact := (split b).bind dFactL
theorem dFactL_len {l : List (List UInt8)} (h : l.length ≠ 5) : dFactL l = none := by
  unfold dFactL
  split
  · exact absurd rfl h
  · rfl
theorem dFactL_some {b0 b1 b2 b3 b4 : List UInt8} {y0 : DCommit} {y1 : Dig} {y2 : List UInt8} {y3 : Bool} {y4 : List UInt8} (h0 : dCommit b0 = some y0) (h1 : dDig b1 = some y1) (h2 : some b2 = some y2) (h3 : dBool b3 = some y3) (h4 : some b4 = some y4) : dFactL [b0, b1, b2, b3, b4] = some ⟨y0, y1, y2, y3, y4⟩ := by simp only [dFactL, h0, h1, h2, h3, h4, Option.bind_some]
theorem dFactL_isSome (b0 b1 b2 b3 b4 : List UInt8) : (dFactL [b0, b1, b2, b3, b4]).isSome = (((((dCommit b0).isSome && (dDig b1).isSome) && (some b2).isSome) && (dBool b3).isSome) && (some b4).isSome) := by
  simp only [dFactL]
  cases dCommit b0 with
  | none => simp
  | some _ =>
    try simp only [Option.bind_some, Option.isSome_some, Bool.and_true, Bool.true_and]
    cases dDig b1 with
    | none => simp
    | some _ =>
      try simp only [Option.bind_some, Option.isSome_some, Bool.and_true, Bool.true_and]
      try simp only [Option.bind_some, Option.isSome_some, Bool.and_true]
      cases dBool b3 with
      | none => simp
      | some _ =>
        try simp only [Option.bind_some, Option.isSome_some, Bool.and_true, Bool.true_and]
        try simp only [Option.bind_some, Option.isSome_some, Bool.and_true]
        try rfl
theorem dFact_back {b : List UInt8} {x : DFact} (h : dFact b = some x) : eFact x = b := by
  unfold dFact at h
  cases hs : split b with
  | none => rw [hs] at h; cases h
  | some l =>
    rw [hs] at h
    simp only [Option.bind_some] at h
    rw [← split_join hs]
    unfold dFactL at h
    split at h
    · simp only [Option.bind_eq_some_iff, Option.some.injEq] at h
      obtain ⟨y0, h0, y1, h1, y2, h2, y3, h3, y4, h4, rfl⟩ := h
      unfold eFact
      cases h2
      cases h4
      simp only [dCommit_back h0, dDig_back h1, dBool_back h3]
    · cases h
def dRecordL : List (List UInt8) → Option DRecord
  | [b0, b1, b2] => (dI64 b0).bind fun y0 => (dInts b1).bind fun y1 => (dList dInts b2).bind fun y2 => some ⟨y0, y1, y2⟩
  | _ => none
def dRecord (b : List UInt8) : Option DRecord := (split b).bind dRecordL
theorem dRecordL_len {l : List (List UInt8)} (h : l.length ≠ 3) : dRecordL l = none := by
  unfold dRecordL
  split
  · exact absurd rfl h
  · rfl
theorem dRecordL_some {b0 b1 b2 : List UInt8} {y0 : Int} {y1 : List Int} {y2 : List (List Int)} (h0 : dI64 b0 = some y0) (h1 : dInts b1 = some y1) (h2 : dList dInts b2 = some y2) : dRecordL [b0, b1, b2] = some ⟨y0, y1, y2⟩ := by simp only [dRecordL, h0, h1, h2, Option.bind_some]
theorem dRecordL_isSome (b0 b1 b2 : List UInt8) : (dRecordL [b0, b1, b2]).isSome = (((dI64 b0).isSome && (dInts b1).isSome) && (dList dInts b2).isSome) := by
  simp only [dRecordL]
  cases dI64 b0 with
  | none => simp
  | some _ =>
    try simp only [Option.bind_some, Option.isSome_some, Bool.and_true, Bool.true_and]
    cases dInts b1 with
    | none => simp
    | some _ =>
      try simp only [Option.bind_some, Option.isSome_some, Bool.and_true, Bool.true_and]
      cases dList dInts b2 with
      | none => simp
      | some _ =>
        try simp only [Option.bind_some, Option.isSome_some, Bool.and_true, Bool.true_and]
        try rfl
theorem dRecord_back {b : List UInt8} {x : DRecord} (h : dRecord b = some x) : eRecord x = b := by
  unfold dRecord at h
  cases hs : split b with
  | none => rw [hs] at h; cases h
  | some l =>
    rw [hs] at h
    simp only [Option.bind_some] at h
    rw [← split_join hs]
    unfold dRecordL at h
    split at h
    · simp only [Option.bind_eq_some_iff, Option.some.injEq] at h
      obtain ⟨y0, h0, y1, h1, y2, h2, rfl⟩ := h
      unfold eRecord
      simp only [dI64_back h0, dInts_back h1, dList_back (fun _ _ h => dInts_back h) h2]
    · cases h
def dTxL : List (List UInt8) → Option DTx
  | [b0, b1, b2, b3, b4, b5, b6, b7, b8, b9] => (dI64 b0).bind fun y0 => (dU64 b1).bind fun y1 => (dU64 b2).bind fun y2 => (dU64 b3).bind fun y3 => (dU64 b4).bind fun y4 => (dI64 b5).bind fun y5 => (dI64 b6).bind fun y6 => (dDig b7).bind fun y7 => (dI64 b8).bind fun y8 => (dList dFact b9).bind fun y9 => some ⟨y0, y1, y2, y3, y4, y5, y6, y7, y8, y9⟩
  | _ => none
def dTx (b : List UInt8) : Option DTx := (split b).bind dTxL
theorem dTxL_len {l : List (List UInt8)} (h : l.length ≠ 10) : dTxL l = none := by
  unfold dTxL
  split
  · exact absurd rfl h
  · rfl
theorem dTxL_some {b0 b1 b2 b3 b4 b5 b6 b7 b8 b9 : List UInt8} {y0 : Int} {y1 : Int} {y2 : Int} {y3 : Int} {y4 : Int} {y5 : Int} {y6 : Int} {y7 : Dig} {y8 : Int} {y9 : List DFact} (h0 : dI64 b0 = some y0) (h1 : dU64 b1 = some y1) (h2 : dU64 b2 = some y2) (h3 : dU64 b3 = some y3) (h4 : dU64 b4 = some y4) (h5 : dI64 b5 = some y5) (h6 : dI64 b6 = some y6) (h7 : dDig b7 = some y7) (h8 : dI64 b8 = some y8) (h9 : dList dFact b9 = some y9) : dTxL [b0, b1, b2, b3, b4, b5, b6, b7, b8, b9] = some ⟨y0, y1, y2, y3, y4, y5, y6, y7, y8, y9⟩ := by simp only [dTxL, h0, h1, h2, h3, h4, h5, h6, h7, h8, h9, Option.bind_some]
theorem dTxL_isSome (b0 b1 b2 b3 b4 b5 b6 b7 b8 b9 : List UInt8) : (dTxL [b0, b1, b2, b3, b4, b5, b6, b7, b8, b9]).isSome = ((((((((((dI64 b0).isSome && (dU64 b1).isSome) && (dU64 b2).isSome) && (dU64 b3).isSome) && (dU64 b4).isSome) && (dI64 b5).isSome) && (dI64 b6).isSome) && (dDig b7).isSome) && (dI64 b8).isSome) && (dList dFact b9).isSome) := by
  simp only [dTxL]
  cases dI64 b0 with
  | none => simp
  | some _ =>
    try simp only [Option.bind_some, Option.isSome_some, Bool.and_true, Bool.true_and]
    cases dU64 b1 with
    | none => simp
    | some _ =>
      try simp only [Option.bind_some, Option.isSome_some, Bool.and_true, Bool.true_and]
      cases dU64 b2 with
      | none => simp
      | some _ =>
        try simp only [Option.bind_some, Option.isSome_some, Bool.and_true, Bool.true_and]
        cases dU64 b3 with
        | none => simp
        | some _ =>
          try simp only [Option.bind_some, Option.isSome_some, Bool.and_true, Bool.true_and]
          cases dU64 b4 with
          | none => simp
          | some _ =>
            try simp only [Option.bind_some, Option.isSome_some, Bool.and_true, Bool.true_and]
            cases dI64 b5 with
            | none => simp
            | some _ =>
              try simp only [Option.bind_some, Option.isSome_some, Bool.and_true, Bool.true_and]
              cases dI64 b6 with
              | none => simp
              | some _ =>
                try simp only [Option.bind_some, Option.isSome_some, Bool.and_true, Bool.true_and]
                cases dDig b7 with
                | none => simp
                | some _ =>
                  try simp only [Option.bind_some, Option.isSome_some, Bool.and_true, Bool.true_and]
                  cases dI64 b8 with
                  | none => simp
                  | some _ =>
                    try simp only [Option.bind_some, Option.isSome_some, Bool.and_true, Bool.true_and]
                    cases dList dFact b9 with
                    | none => simp
                    | some _ =>
                      try simp only [Option.bind_some, Option.isSome_some, Bool.and_true, Bool.true_and]
                      try rfl
theorem dTx_back {b : List UInt8} {x : DTx} (h : dTx b = some x) : eTx x = b := by
  unfold dTx at h
  cases hs : split b with
  | none => rw [hs] at h; cases h
  | some l =>
    rw [hs] at h
    simp only [Option.bind_some] at h
    rw [← split_join hs]
    unfold dTxL at h
    split at h
    · simp only [Option.bind_eq_some_iff, Option.some.injEq] at h
      obtain ⟨y0, h0, y1, h1, y2, h2, y3, h3, y4, h4, y5, h5, y6, h6, y7, h7, y8, h8, y9, h9, rfl⟩ := h
      unfold eTx
      simp only [dI64_back h0, dU64_back h1, dU64_back h2, dU64_back h3, dU64_back h4, dI64_back h5, dI64_back h6, dDig_back h7, dI64_back h8, dList_back (fun _ _ h => dFact_back h) h9]
    · cases h
def dBlockL : List (List UInt8) → Option DBlock
  | [b0, b1, b2, b3, b4] => (dHeader b0).bind fun y0 => (dQC b1).bind fun y1 => (dList dCommit b2).bind fun y2 => (dList dTx b3).bind fun y3 => (dSig b4).bind fun y4 => some ⟨y0, y1, y2, y3, y4⟩
  | _ => none
def dBlock (b : List UInt8) : Option DBlock := (split b).bind dBlockL
theorem dBlockL_len {l : List (List UInt8)} (h : l.length ≠ 5) : dBlockL l = none := by
  unfold dBlockL
  split
  · exact absurd rfl h
  · rfl
theorem dBlockL_some {b0 b1 b2 b3 b4 : List UInt8} {y0 : DHeader} {y1 : DQC} {y2 : List DCommit} {y3 : List DTx} {y4 : DSig} (h0 : dHeader b0 = some y0) (h1 : dQC b1 = some y1) (h2 : dList dCommit b2 = some y2) (h3 : dList dTx b3 = some y3) (h4 : dSig b4 = some y4) : dBlockL [b0, b1, b2, b3, b4] = some ⟨y0, y1, y2, y3, y4⟩ := by simp only [dBlockL, h0, h1, h2, h3, h4, Option.bind_some]
theorem dBlockL_isSome (b0 b1 b2 b3 b4 : List UInt8) : (dBlockL [b0, b1, b2, b3, b4]).isSome = (((((dHeader b0).isSome && (dQC b1).isSome) && (dList dCommit b2).isSome) && (dList dTx b3).isSome) && (dSig b4).isSome) := by
  simp only [dBlockL]
  cases dHeader b0 with
  | none => simp
  | some _ =>
    try simp only [Option.bind_some, Option.isSome_some, Bool.and_true, Bool.true_and]
    cases dQC b1 with
    | none => simp
    | some _ =>
      try simp only [Option.bind_some, Option.isSome_some, Bool.and_true, Bool.true_and]
      cases dList dCommit b2 with
      | none => simp
      | some _ =>
        try simp only [Option.bind_some, Option.isSome_some, Bool.and_true, Bool.true_and]
        cases dList dTx b3 with
        | none => simp
        | some _ =>
          try simp only [Option.bind_some, Option.isSome_some, Bool.and_true, Bool.true_and]
          cases dSig b4 with
          | none => simp
          | some _ =>
            try simp only [Option.bind_some, Option.isSome_some, Bool.and_true, Bool.true_and]
            try rfl
theorem dBlock_back {b : List UInt8} {x : DBlock} (h : dBlock b = some x) : eBlock x = b := by
  unfold dBlock at h
  cases hs : split b with
  | none => rw [hs] at h; cases h
  | some l =>
    rw [hs] at h
    simp only [Option.bind_some] at h
    rw [← split_join hs]
    unfold dBlockL at h
    split at h
    · simp only [Option.bind_eq_some_iff, Option.some.injEq] at h
      obtain ⟨y0, h0, y1, h1, y2, h2, y3, h3, y4, h4, rfl⟩ := h
      unfold eBlock
      simp only [dHeader_back h0, dQC_back h1, dList_back (fun _ _ h => dCommit_back h) h2, dList_back (fun _ _ h => dTx_back h) h3, dSig_back h4]
    · cases h
def dVoteL : List (List UInt8) → Option DVote
  | [b0, b1, b2, b3, b4, b5] => (dI64 b0).bind fun y0 => (dI64 b1).bind fun y1 => (dI64 b2).bind fun y2 => (dDig b3).bind fun y3 => (dI64 b4).bind fun y4 => (dSig b5).bind fun y5 => some ⟨y0, y1, y2, y3, y4, y5⟩
  | _ => none
def dVote (b : List UInt8) : Option DVote := (split b).bind dVoteL
theorem dVoteL_len {l : List (List UInt8)} (h : l.length ≠ 6) : dVoteL l = none := by
  unfold dVoteL
  split
  · exact absurd rfl h
  · rfl
theorem dVoteL_some {b0 b1 b2 b3 b4 b5 : List UInt8} {y0 : Int} {y1 : Int} {y2 : Int} {y3 : Dig} {y4 : Int} {y5 : DSig} (h0 : dI64 b0 = some y0) (h1 : dI64 b1 = some y1) (h2 : dI64 b2 = some y2) (h3 : dDig b3 = some y3) (h4 : dI64 b4 = some y4) (h5 : dSig b5 = some y5) : dVoteL [b0, b1, b2, b3, b4, b5] = some ⟨y0, y1, y2, y3, y4, y5⟩ := by simp only [dVoteL, h0, h1, h2, h3, h4, h5, Option.bind_some]
theorem dVoteL_isSome (b0 b1 b2 b3 b4 b5 : List UInt8) : (dVoteL [b0, b1, b2, b3, b4, b5]).isSome = ((((((dI64 b0).isSome && (dI64 b1).isSome) && (dI64 b2).isSome) && (dDig b3).isSome) && (dI64 b4).isSome) && (dSig b5).isSome) := by
  simp only [dVoteL]
  cases dI64 b0 with
  | none => simp
  | some _ =>
    try simp only [Option.bind_some, Option.isSome_some, Bool.and_true, Bool.true_and]
    cases dI64 b1 with
    | none => simp
    | some _ =>
      try simp only [Option.bind_some, Option.isSome_some, Bool.and_true, Bool.true_and]
      cases dI64 b2 with
      | none => simp
      | some _ =>
        try simp only [Option.bind_some, Option.isSome_some, Bool.and_true, Bool.true_and]
        cases dDig b3 with
        | none => simp
        | some _ =>
          try simp only [Option.bind_some, Option.isSome_some, Bool.and_true, Bool.true_and]
          cases dI64 b4 with
          | none => simp
          | some _ =>
            try simp only [Option.bind_some, Option.isSome_some, Bool.and_true, Bool.true_and]
            cases dSig b5 with
            | none => simp
            | some _ =>
              try simp only [Option.bind_some, Option.isSome_some, Bool.and_true, Bool.true_and]
              try rfl
theorem dVote_back {b : List UInt8} {x : DVote} (h : dVote b = some x) : eVote x = b := by
  unfold dVote at h
  cases hs : split b with
  | none => rw [hs] at h; cases h
  | some l =>
    rw [hs] at h
    simp only [Option.bind_some] at h
    rw [← split_join hs]
    unfold dVoteL at h
    split at h
    · simp only [Option.bind_eq_some_iff, Option.some.injEq] at h
      obtain ⟨y0, h0, y1, h1, y2, h2, y3, h3, y4, h4, y5, h5, rfl⟩ := h
      unfold eVote
      simp only [dI64_back h0, dI64_back h1, dI64_back h2, dDig_back h3, dI64_back h4, dSig_back h5]
    · cases h
def dTimeoutL : List (List UInt8) → Option DTimeout
  | [b0, b1, b2, b3, b4, b5] => (dI64 b0).bind fun y0 => (dI64 b1).bind fun y1 => (dI64 b2).bind fun y2 => (dQC b3).bind fun y3 => (dI64 b4).bind fun y4 => (dSig b5).bind fun y5 => some ⟨y0, y1, y2, y3, y4, y5⟩
  | _ => none
def dTimeout (b : List UInt8) : Option DTimeout := (split b).bind dTimeoutL
theorem dTimeoutL_len {l : List (List UInt8)} (h : l.length ≠ 6) : dTimeoutL l = none := by
  unfold dTimeoutL
  split
  · exact absurd rfl h
  · rfl
theorem dTimeoutL_some {b0 b1 b2 b3 b4 b5 : List UInt8} {y0 : Int} {y1 : Int} {y2 : Int} {y3 : DQC} {y4 : Int} {y5 : DSig} (h0 : dI64 b0 = some y0) (h1 : dI64 b1 = some y1) (h2 : dI64 b2 = some y2) (h3 : dQC b3 = some y3) (h4 : dI64 b4 = some y4) (h5 : dSig b5 = some y5) : dTimeoutL [b0, b1, b2, b3, b4, b5] = some ⟨y0, y1, y2, y3, y4, y5⟩ := by simp only [dTimeoutL, h0, h1, h2, h3, h4, h5, Option.bind_some]
theorem dTimeoutL_isSome (b0 b1 b2 b3 b4 b5 : List UInt8) : (dTimeoutL [b0, b1, b2, b3, b4, b5]).isSome = ((((((dI64 b0).isSome && (dI64 b1).isSome) && (dI64 b2).isSome) && (dQC b3).isSome) && (dI64 b4).isSome) && (dSig b5).isSome) := by
  simp only [dTimeoutL]
  cases dI64 b0 with
  | none => simp
  | some _ =>
    try simp only [Option.bind_some, Option.isSome_some, Bool.and_true, Bool.true_and]
    cases dI64 b1 with
    | none => simp
    | some _ =>
      try simp only [Option.bind_some, Option.isSome_some, Bool.and_true, Bool.true_and]
      cases dI64 b2 with
      | none => simp
      | some _ =>
        try simp only [Option.bind_some, Option.isSome_some, Bool.and_true, Bool.true_and]
        cases dQC b3 with
        | none => simp
        | some _ =>
          try simp only [Option.bind_some, Option.isSome_some, Bool.and_true, Bool.true_and]
          cases dI64 b4 with
          | none => simp
          | some _ =>
            try simp only [Option.bind_some, Option.isSome_some, Bool.and_true, Bool.true_and]
            cases dSig b5 with
            | none => simp
            | some _ =>
              try simp only [Option.bind_some, Option.isSome_some, Bool.and_true, Bool.true_and]
              try rfl
theorem dTimeout_back {b : List UInt8} {x : DTimeout} (h : dTimeout b = some x) : eTimeout x = b := by
  unfold dTimeout at h
  cases hs : split b with
  | none => rw [hs] at h; cases h
  | some l =>
    rw [hs] at h
    simp only [Option.bind_some] at h
    rw [← split_join hs]
    unfold dTimeoutL at h
    split at h
    · simp only [Option.bind_eq_some_iff, Option.some.injEq] at h
      obtain ⟨y0, h0, y1, h1, y2, h2, y3, h3, y4, h4, y5, h5, rfl⟩ := h
      unfold eTimeout
      simp only [dI64_back h0, dI64_back h1, dI64_back h2, dQC_back h3, dI64_back h4, dSig_back h5]
    · cases h
def dMessageL : List (List UInt8) → Option DMessage
  | [b0, b1, b2, b3, b4, b5, b6, b7, b8] => (dI64 b0).bind fun y0 => (dI64 b1).bind fun y1 => (dI64 b2).bind fun y2 => (dDig b3).bind fun y3 => (dList dBlock b4).bind fun y4 => (dList dVote b5).bind fun y5 => (dList dTimeout b6).bind fun y6 => (dList dCommit b7).bind fun y7 => (dList dTx b8).bind fun y8 => some ⟨y0, y1, y2, y3, y4, y5, y6, y7, y8⟩
  | _ => none
def dMessage (b : List UInt8) : Option DMessage := (split b).bind dMessageL
theorem dMessageL_len {l : List (List UInt8)} (h : l.length ≠ 9) : dMessageL l = none := by
  unfold dMessageL
  split
  · exact absurd rfl h
  · rfl
theorem dMessageL_some {b0 b1 b2 b3 b4 b5 b6 b7 b8 : List UInt8} {y0 : Int} {y1 : Int} {y2 : Int} {y3 : Dig} {y4 : List DBlock} {y5 : List DVote} {y6 : List DTimeout} {y7 : List DCommit} {y8 : List DTx} (h0 : dI64 b0 = some y0) (h1 : dI64 b1 = some y1) (h2 : dI64 b2 = some y2) (h3 : dDig b3 = some y3) (h4 : dList dBlock b4 = some y4) (h5 : dList dVote b5 = some y5) (h6 : dList dTimeout b6 = some y6) (h7 : dList dCommit b7 = some y7) (h8 : dList dTx b8 = some y8) : dMessageL [b0, b1, b2, b3, b4, b5, b6, b7, b8] = some ⟨y0, y1, y2, y3, y4, y5, y6, y7, y8⟩ := by simp only [dMessageL, h0, h1, h2, h3, h4, h5, h6, h7, h8, Option.bind_some]
theorem dMessageL_isSome (b0 b1 b2 b3 b4 b5 b6 b7 b8 : List UInt8) : (dMessageL [b0, b1, b2, b3, b4, b5, b6, b7, b8]).isSome = (((((((((dI64 b0).isSome && (dI64 b1).isSome) && (dI64 b2).isSome) && (dDig b3).isSome) && (dList dBlock b4).isSome) && (dList dVote b5).isSome) && (dList dTimeout b6).isSome) && (dList dCommit b7).isSome) && (dList dTx b8).isSome) := by
  simp only [dMessageL]
  cases dI64 b0 with
  | none => simp
  | some _ =>
    try simp only [Option.bind_some, Option.isSome_some, Bool.and_true, Bool.true_and]
    cases dI64 b1 with
    | none => simp
    | some _ =>
      try simp only [Option.bind_some, Option.isSome_some, Bool.and_true, Bool.true_and]
      cases dI64 b2 with
      | none => simp
      | some _ =>
        try simp only [Option.bind_some, Option.isSome_some, Bool.and_true, Bool.true_and]
        cases dDig b3 with
        | none => simp
        | some _ =>
          try simp only [Option.bind_some, Option.isSome_some, Bool.and_true, Bool.true_and]
          cases dList dBlock b4 with
          | none => simp
          | some _ =>
            try simp only [Option.bind_some, Option.isSome_some, Bool.and_true, Bool.true_and]
            cases dList dVote b5 with
            | none => simp
            | some _ =>
              try simp only [Option.bind_some, Option.isSome_some, Bool.and_true, Bool.true_and]
              cases dList dTimeout b6 with
              | none => simp
              | some _ =>
                try simp only [Option.bind_some, Option.isSome_some, Bool.and_true, Bool.true_and]
                cases dList dCommit b7 with
                | none => simp
                | some _ =>
                  try simp only [Option.bind_some, Option.isSome_some, Bool.and_true, Bool.true_and]
                  cases dList dTx b8 with
                  | none => simp
                  | some _ =>
                    try simp only [Option.bind_some, Option.isSome_some, Bool.and_true, Bool.true_and]
                    try rfl
theorem dMessage_back {b : List UInt8} {x : DMessage} (h : dMessage b = some x) : eMessage x = b := by
  unfold dMessage at h
  cases hs : split b with
  | none => rw [hs] at h; cases h
  | some l =>
    rw [hs] at h
    simp only [Option.bind_some] at h
    rw [← split_join hs]
    unfold dMessageL at h
    split at h
    · simp only [Option.bind_eq_some_iff, Option.some.injEq] at h
      obtain ⟨y0, h0, y1, h1, y2, h2, y3, h3, y4, h4, y5, h5, y6, h6, y7, h7, y8, h8, rfl⟩ := h
      unfold eMessage
      simp only [dI64_back h0, dI64_back h1, dI64_back h2, dDig_back h3, dList_back (fun _ _ h => dBlock_back h) h4, dList_back (fun _ _ h => dVote_back h) h5, dList_back (fun _ _ h => dTimeout_back h) h6, dList_back (fun _ _ h => dCommit_back h) h7, dList_back (fun _ _ h => dTx_back h) h8]
    · cases h
end Go.Proofs.YtddpmpbngcbokaaGreatDoor
