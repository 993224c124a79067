/- What the bytes of things are: plain functions on lists; no program. -/
namespace Go.Proofs.YtddpmpbngcbokaaGreatDoor

def byteAt (n : Int) (k : Nat) : UInt8 := UInt8.ofNat ((n % 18446744073709551616).toNat / 2 ^ (8 * k) % 256)
def be8 (n : Int) : List UInt8 := [byteAt n 7, byteAt n 6, byteAt n 5, byteAt n 4, byteAt n 3, byteAt n 2, byteAt n 1, byteAt n 0]
def joinTail : List (List UInt8) → List UInt8
  | [] => []
  | p :: r => be8 (p.length : Int) ++ p ++ joinTail r
def join (ps : List (List UInt8)) : List UInt8 := be8 (ps.length : Int) ++ joinTail ps

theorem be8_length (n : Int) : (be8 n).length = 8 := rfl
theorem be8_mod (n : Int) : be8 (n % 18446744073709551616) = be8 n := by simp [be8, byteAt, Int.emod_emod_of_dvd]
theorem joinTail_append : ∀ (a b : List (List UInt8)), joinTail (a ++ b) = joinTail a ++ joinTail b
  | [], _ => rfl
  | p :: r, b => by simp [joinTail, joinTail_append r b, List.append_assoc]
end Go.Proofs.YtddpmpbngcbokaaGreatDoor
