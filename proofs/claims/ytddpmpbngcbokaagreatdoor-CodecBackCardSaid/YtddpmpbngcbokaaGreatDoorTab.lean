/- The table of types: closed facts. -/
import Derived.WalkKit
import Derived.Test.YtddpmpbngcbokaaGreatDoorProg
namespace Go.Proofs.YtddpmpbngcbokaaGreatDoor
open Go Go.RowKit
set_option maxRecDepth 100000
theorem sz2 : (Tryz.prog.info? 2).map (·.size) = some 1 := by kernel_rfl
theorem sz3 : (Tryz.prog.info? 3).map (·.size) = some 1 := by kernel_rfl
theorem sz4 : (Tryz.prog.info? 4).map (·.size) = some 1 := by kernel_rfl
theorem sz5 : (Tryz.prog.info? 5).map (·.size) = some 1 := by kernel_rfl
theorem sz6 : (Tryz.prog.info? 6).map (·.size) = some 1 := by kernel_rfl
theorem sz7 : (Tryz.prog.info? 7).map (·.size) = some 4 := by kernel_rfl
theorem sz8 : (Tryz.prog.info? 8).map (·.size) = some 4 := by kernel_rfl
theorem sz9 : (Tryz.prog.info? 9).map (·.size) = some 1 := by kernel_rfl
theorem sz10 : (Tryz.prog.info? 10).map (·.size) = some 1 := by kernel_rfl
theorem sz11 : (Tryz.prog.info? 11).map (·.size) = some 1 := by kernel_rfl
theorem sz12 : (Tryz.prog.info? 12).map (·.size) = some 1 := by kernel_rfl
theorem sz13 : (Tryz.prog.info? 13).map (·.size) = some 2 := by kernel_rfl
theorem sz14 : (Tryz.prog.info? 14).map (·.size) = some 2 := by kernel_rfl
theorem sz15 : (Tryz.prog.info? 15).map (·.size) = some 1 := by kernel_rfl
theorem sz16 : (Tryz.prog.info? 16).map (·.size) = some 1 := by kernel_rfl
theorem sz17 : (Tryz.prog.info? 17).map (·.size) = some 1 := by kernel_rfl
theorem sz18 : (Tryz.prog.info? 18).map (·.size) = some 1 := by kernel_rfl
theorem sz19 : (Tryz.prog.info? 19).map (·.size) = some 1 := by kernel_rfl
theorem sz20 : (Tryz.prog.info? 20).map (·.size) = some 1 := by kernel_rfl
theorem sz21 : (Tryz.prog.info? 21).map (·.size) = some 1 := by kernel_rfl
theorem sz22 : (Tryz.prog.info? 22).map (·.size) = some 1 := by kernel_rfl
theorem sz24 : (Tryz.prog.info? 24).map (·.size) = some 1 := by kernel_rfl
theorem sz28 : (Tryz.prog.info? 28).map (·.size) = some 32 := by kernel_rfl
theorem sz29 : (Tryz.prog.info? 29).map (·.size) = some 32 := by kernel_rfl
theorem sz30 : (Tryz.prog.info? 30).map (·.size) = some 1 := by kernel_rfl
theorem sz31 : (Tryz.prog.info? 31).map (·.size) = some 1 := by kernel_rfl
theorem sz32 : (Tryz.prog.info? 32).map (·.size) = some 1 := by kernel_rfl
theorem sz33 : (Tryz.prog.info? 33).map (·.size) = some 1 := by kernel_rfl
theorem sz34 : (Tryz.prog.info? 34).map (·.size) = some 1 := by kernel_rfl
theorem sz35 : (Tryz.prog.info? 35).map (·.size) = some 40 := by kernel_rfl
theorem sz36 : (Tryz.prog.info? 36).map (·.size) = some 40 := by kernel_rfl
theorem sz39 : (Tryz.prog.info? 39).map (·.size) = some 1 := by kernel_rfl
theorem sz40 : (Tryz.prog.info? 40).map (·.size) = some 1 := by kernel_rfl
theorem sz41 : (Tryz.prog.info? 41).map (·.size) = some 1 := by kernel_rfl
theorem sz42 : (Tryz.prog.info? 42).map (·.size) = some 37 := by kernel_rfl
theorem sz43 : (Tryz.prog.info? 43).map (·.size) = some 37 := by kernel_rfl
theorem sz44 : (Tryz.prog.info? 44).map (·.size) = some 38 := by kernel_rfl
theorem sz45 : (Tryz.prog.info? 45).map (·.size) = some 38 := by kernel_rfl
theorem sz46 : (Tryz.prog.info? 46).map (·.size) = some 73 := by kernel_rfl
theorem sz47 : (Tryz.prog.info? 47).map (·.size) = some 73 := by kernel_rfl
theorem sz53 : (Tryz.prog.info? 53).map (·.size) = some 1 := by kernel_rfl
theorem sz54 : (Tryz.prog.info? 54).map (·.size) = some 3 := by kernel_rfl
theorem sz55 : (Tryz.prog.info? 55).map (·.size) = some 3 := by kernel_rfl
theorem sz58 : (Tryz.prog.info? 58).map (·.size) = some 101 := by kernel_rfl
theorem sz59 : (Tryz.prog.info? 59).map (·.size) = some 101 := by kernel_rfl
theorem sz79 : (Tryz.prog.info? 79).map (·.size) = some 1 := by kernel_rfl
theorem sz80 : (Tryz.prog.info? 80).map (·.size) = some 1 := by kernel_rfl
theorem sz81 : (Tryz.prog.info? 81).map (·.size) = some 41 := by kernel_rfl
theorem sz82 : (Tryz.prog.info? 82).map (·.size) = some 41 := by kernel_rfl
theorem sz88 : (Tryz.prog.info? 88).map (·.size) = some 33 := by kernel_rfl
theorem sz89 : (Tryz.prog.info? 89).map (·.size) = some 33 := by kernel_rfl
theorem sz90 : (Tryz.prog.info? 90).map (·.size) = some 173 := by kernel_rfl
theorem sz91 : (Tryz.prog.info? 91).map (·.size) = some 173 := by kernel_rfl
theorem sz97 : (Tryz.prog.info? 97).map (·.size) = some 69 := by kernel_rfl
theorem sz98 : (Tryz.prog.info? 98).map (·.size) = some 69 := by kernel_rfl
theorem sz104 : (Tryz.prog.info? 104).map (·.size) = some 74 := by kernel_rfl
theorem sz105 : (Tryz.prog.info? 105).map (·.size) = some 74 := by kernel_rfl
theorem sz133 : (Tryz.prog.info? 133).map (·.size) = some 1 := by kernel_rfl
theorem sz160 : (Tryz.prog.info? 160).map (·.size) = some 1 := by kernel_rfl
theorem sz161 : (Tryz.prog.info? 161).map (·.size) = some 1 := by kernel_rfl
theorem sz162 : (Tryz.prog.info? 162).map (·.size) = some 1 := by kernel_rfl
theorem sz163 : (Tryz.prog.info? 163).map (·.size) = some 2 := by kernel_rfl
theorem sz164 : (Tryz.prog.info? 164).map (·.size) = some 2 := by kernel_rfl
theorem sz166 : (Tryz.prog.info? 166).map (·.size) = some 1 := by kernel_rfl
theorem sz176 : (Tryz.prog.info? 176).map (·.size) = some 2 := by kernel_rfl
theorem sz177 : (Tryz.prog.info? 177).map (·.size) = some 2 := by kernel_rfl
theorem sz193 : (Tryz.prog.info? 193).map (·.size) = some 1 := by kernel_rfl
theorem sz211 : (Tryz.prog.info? 211).map (·.size) = some 1 := by kernel_rfl
theorem sz218 : (Tryz.prog.info? 218).map (·.size) = some 1 := by kernel_rfl
theorem sz219 : (Tryz.prog.info? 219).map (·.size) = some 1 := by kernel_rfl
theorem sz223 : (Tryz.prog.info? 223).map (·.size) = some 1 := by kernel_rfl
theorem sz224 : (Tryz.prog.info? 224).map (·.size) = some 3 := by kernel_rfl
theorem sz225 : (Tryz.prog.info? 225).map (·.size) = some 3 := by kernel_rfl
theorem sz228 : (Tryz.prog.info? 228).map (·.size) = some 1 := by kernel_rfl
theorem sz232 : (Tryz.prog.info? 232).map (·.size) = some 1 := by kernel_rfl
theorem sz233 : (Tryz.prog.info? 233).map (·.size) = some 1 := by kernel_rfl
theorem sz234 : (Tryz.prog.info? 234).map (·.size) = some 1 := by kernel_rfl
theorem sz235 : (Tryz.prog.info? 235).map (·.size) = some 1 := by kernel_rfl
theorem sz238 : (Tryz.prog.info? 238).map (·.size) = some 1 := by kernel_rfl
theorem sz240 : (Tryz.prog.info? 240).map (·.size) = some 1 := by kernel_rfl
theorem sz241 : (Tryz.prog.info? 241).map (·.size) = some 1 := by kernel_rfl
theorem sz245 : (Tryz.prog.info? 245).map (·.size) = some 1 := by kernel_rfl
theorem sz248 : (Tryz.prog.info? 248).map (·.size) = some 1 := by kernel_rfl
theorem sz250 : (Tryz.prog.info? 250).map (·.size) = some 4 := by kernel_rfl
theorem sz251 : (Tryz.prog.info? 251).map (·.size) = some 4 := by kernel_rfl
theorem sz252 : (Tryz.prog.info? 252).map (·.size) = some 0 := by kernel_rfl
theorem sz253 : (Tryz.prog.info? 253).map (·.size) = some 0 := by kernel_rfl
theorem sz254 : (Tryz.prog.info? 254).map (·.size) = some 0 := by kernel_rfl
theorem sz256 : (Tryz.prog.info? 256).map (·.size) = some 1 := by kernel_rfl
theorem sz257 : (Tryz.prog.info? 257).map (·.size) = some 1 := by kernel_rfl
theorem sz259 : (Tryz.prog.info? 259).map (·.size) = some 1 := by kernel_rfl
theorem sz260 : (Tryz.prog.info? 260).map (·.size) = some 1 := by kernel_rfl
theorem sz261 : (Tryz.prog.info? 261).map (·.size) = some 1 := by kernel_rfl
theorem sz262 : (Tryz.prog.info? 262).map (·.size) = some 11 := by kernel_rfl
theorem sz263 : (Tryz.prog.info? 263).map (·.size) = some 11 := by kernel_rfl
theorem sz266 : (Tryz.prog.info? 266).map (·.size) = some 2 := by kernel_rfl
theorem sz267 : (Tryz.prog.info? 267).map (·.size) = some 2 := by kernel_rfl
theorem sz268 : (Tryz.prog.info? 268).map (·.size) = some 1 := by kernel_rfl
theorem sz269 : (Tryz.prog.info? 269).map (·.size) = some 1 := by kernel_rfl
theorem sz270 : (Tryz.prog.info? 270).map (·.size) = some 1 := by kernel_rfl
theorem sz272 : (Tryz.prog.info? 272).map (·.size) = some 1 := by kernel_rfl
theorem sz273 : (Tryz.prog.info? 273).map (·.size) = some 5 := by kernel_rfl
theorem sz274 : (Tryz.prog.info? 274).map (·.size) = some 5 := by kernel_rfl
theorem sz275 : (Tryz.prog.info? 275).map (·.size) = some 1 := by kernel_rfl
theorem sz276 : (Tryz.prog.info? 276).map (·.size) = some 1 := by kernel_rfl
theorem sz277 : (Tryz.prog.info? 277).map (·.size) = some 4 := by kernel_rfl
theorem sz278 : (Tryz.prog.info? 278).map (·.size) = some 4 := by kernel_rfl
theorem sz280 : (Tryz.prog.info? 280).map (·.size) = some 1 := by kernel_rfl
def zl3 : List Value := [.int .i64 0]
theorem inf3 : (Tryz.prog.info? 3).map (fun i => (i.zero, i.size, i.bytes)) = some (some (.int .i64 0), 1, 8) := by kernel_rfl
theorem zr3 : (Tryz.prog.info? 3).bind (·.zero) = some (.int .i64 0) := by kernel_rfl
def zl5 : List Value := [.int .u8 0]
theorem inf5 : (Tryz.prog.info? 5).map (fun i => (i.zero, i.size, i.bytes)) = some (some (.int .u8 0), 1, 1) := by kernel_rfl
theorem zr5 : (Tryz.prog.info? 5).bind (·.zero) = some (.int .u8 0) := by kernel_rfl
def zl22 : List Value := [.slice none 0 0]
theorem inf22 : (Tryz.prog.info? 22).map (fun i => (i.zero, i.size, i.bytes)) = some (some (.slice none 0 0), 1, 24) := by kernel_rfl
theorem zr22 : (Tryz.prog.info? 22).bind (·.zero) = some (.slice none 0 0) := by kernel_rfl
def zl29 : List Value := [.int .u8 0, .int .u8 0, .int .u8 0, .int .u8 0, .int .u8 0, .int .u8 0, .int .u8 0, .int .u8 0, .int .u8 0, .int .u8 0, .int .u8 0, .int .u8 0, .int .u8 0, .int .u8 0, .int .u8 0, .int .u8 0, .int .u8 0, .int .u8 0, .int .u8 0, .int .u8 0, .int .u8 0, .int .u8 0, .int .u8 0, .int .u8 0, .int .u8 0, .int .u8 0, .int .u8 0, .int .u8 0, .int .u8 0, .int .u8 0, .int .u8 0, .int .u8 0]
theorem inf29 : (Tryz.prog.info? 29).map (fun i => (i.zero, i.size, i.bytes)) = some (some (Value.agg zl29.toArray), 32, 32) := by kernel_rfl
theorem zr29 : (Tryz.prog.info? 29).bind (·.zero) = some (Value.agg zl29.toArray) := by kernel_rfl
def zl36 : List Value := [.int .i64 0, .int .i64 0, .int .i64 0, .int .u8 0, .int .u8 0, .int .u8 0, .int .u8 0, .int .u8 0, .int .u8 0, .int .u8 0, .int .u8 0, .int .u8 0, .int .u8 0, .int .u8 0, .int .u8 0, .int .u8 0, .int .u8 0, .int .u8 0, .int .u8 0, .int .u8 0, .int .u8 0, .int .u8 0, .int .u8 0, .int .u8 0, .int .u8 0, .int .u8 0, .int .u8 0, .int .u8 0, .int .u8 0, .int .u8 0, .int .u8 0, .int .u8 0, .int .u8 0, .int .u8 0, .int .u8 0, .slice none 0 0, .slice none 0 0, .slice none 0 0, .slice none 0 0, .slice none 0 0]
theorem inf36 : (Tryz.prog.info? 36).map (fun i => (i.zero, i.size, i.bytes)) = some (some (Value.agg zl36.toArray), 40, 176) := by kernel_rfl
theorem zr36 : (Tryz.prog.info? 36).bind (·.zero) = some (Value.agg zl36.toArray) := by kernel_rfl
def zl40 : List Value := [.slice none 0 0]
theorem inf40 : (Tryz.prog.info? 40).map (fun i => (i.zero, i.size, i.bytes)) = some (some (.slice none 0 0), 1, 24) := by kernel_rfl
theorem zr40 : (Tryz.prog.info? 40).bind (·.zero) = some (.slice none 0 0) := by kernel_rfl
def zl43 : List Value := [.int .i64 0, .int .i64 0, .int .i64 0, .int .u8 0, .int .u8 0, .int .u8 0, .int .u8 0, .int .u8 0, .int .u8 0, .int .u8 0, .int .u8 0, .int .u8 0, .int .u8 0, .int .u8 0, .int .u8 0, .int .u8 0, .int .u8 0, .int .u8 0, .int .u8 0, .int .u8 0, .int .u8 0, .int .u8 0, .int .u8 0, .int .u8 0, .int .u8 0, .int .u8 0, .int .u8 0, .int .u8 0, .int .u8 0, .int .u8 0, .int .u8 0, .int .u8 0, .int .u8 0, .int .u8 0, .int .u8 0, .slice none 0 0, .slice none 0 0]
theorem inf43 : (Tryz.prog.info? 43).map (fun i => (i.zero, i.size, i.bytes)) = some (some (Value.agg zl43.toArray), 37, 104) := by kernel_rfl
theorem zr43 : (Tryz.prog.info? 43).bind (·.zero) = some (Value.agg zl43.toArray) := by kernel_rfl
def zl45 : List Value := [.slice none 0 0, .int .i64 0, .int .i64 0, .int .i64 0, .int .u8 0, .int .u8 0, .int .u8 0, .int .u8 0, .int .u8 0, .int .u8 0, .int .u8 0, .int .u8 0, .int .u8 0, .int .u8 0, .int .u8 0, .int .u8 0, .int .u8 0, .int .u8 0, .int .u8 0, .int .u8 0, .int .u8 0, .int .u8 0, .int .u8 0, .int .u8 0, .int .u8 0, .int .u8 0, .int .u8 0, .int .u8 0, .int .u8 0, .int .u8 0, .int .u8 0, .int .u8 0, .int .u8 0, .int .u8 0, .int .u8 0, .int .u8 0, .slice none 0 0, .slice none 0 0]
theorem inf45 : (Tryz.prog.info? 45).map (fun i => (i.zero, i.size, i.bytes)) = some (some (Value.agg zl45.toArray), 38, 128) := by kernel_rfl
theorem zr45 : (Tryz.prog.info? 45).bind (·.zero) = some (Value.agg zl45.toArray) := by kernel_rfl
def zl47 : List Value := [.slice none 0 0, .int .i64 0, .int .i64 0, .int .i64 0, .int .u8 0, .int .u8 0, .int .u8 0, .int .u8 0, .int .u8 0, .int .u8 0, .int .u8 0, .int .u8 0, .int .u8 0, .int .u8 0, .int .u8 0, .int .u8 0, .int .u8 0, .int .u8 0, .int .u8 0, .int .u8 0, .int .u8 0, .int .u8 0, .int .u8 0, .int .u8 0, .int .u8 0, .int .u8 0, .int .u8 0, .int .u8 0, .int .u8 0, .int .u8 0, .int .u8 0, .int .u8 0, .int .u8 0, .int .u8 0, .int .u8 0, .int .u8 0, .slice none 0 0, .slice none 0 0, .int .u8 0, .int .u8 0, .int .u8 0, .int .u8 0, .int .u8 0, .int .u8 0, .int .u8 0, .int .u8 0, .int .u8 0, .int .u8 0, .int .u8 0, .int .u8 0, .int .u8 0, .int .u8 0, .int .u8 0, .int .u8 0, .int .u8 0, .int .u8 0, .int .u8 0, .int .u8 0, .int .u8 0, .int .u8 0, .int .u8 0, .int .u8 0, .int .u8 0, .int .u8 0, .int .u8 0, .int .u8 0, .int .u8 0, .int .u8 0, .int .u8 0, .int .u8 0, .slice none 0 0, .bool false, .slice none 0 0]
theorem inf47 : (Tryz.prog.info? 47).map (fun i => (i.zero, i.size, i.bytes)) = some (some (Value.agg zl47.toArray), 73, 216) := by kernel_rfl
theorem zr47 : (Tryz.prog.info? 47).bind (·.zero) = some (Value.agg zl47.toArray) := by kernel_rfl
def zl55 : List Value := [.int .i64 0, .slice none 0 0, .slice none 0 0]
theorem inf55 : (Tryz.prog.info? 55).map (fun i => (i.zero, i.size, i.bytes)) = some (some (Value.agg zl55.toArray), 3, 56) := by kernel_rfl
theorem zr55 : (Tryz.prog.info? 55).bind (·.zero) = some (Value.agg zl55.toArray) := by kernel_rfl
def zl59 : List Value := [.int .i64 0, .int .i64 0, .int .i64 0, .int .i64 0, .int .u8 0, .int .u8 0, .int .u8 0, .int .u8 0, .int .u8 0, .int .u8 0, .int .u8 0, .int .u8 0, .int .u8 0, .int .u8 0, .int .u8 0, .int .u8 0, .int .u8 0, .int .u8 0, .int .u8 0, .int .u8 0, .int .u8 0, .int .u8 0, .int .u8 0, .int .u8 0, .int .u8 0, .int .u8 0, .int .u8 0, .int .u8 0, .int .u8 0, .int .u8 0, .int .u8 0, .int .u8 0, .int .u8 0, .int .u8 0, .int .u8 0, .int .u8 0, .int .u8 0, .int .u8 0, .int .u8 0, .int .u8 0, .int .u8 0, .int .u8 0, .int .u8 0, .int .u8 0, .int .u8 0, .int .u8 0, .int .u8 0, .int .u8 0, .int .u8 0, .int .u8 0, .int .u8 0, .int .u8 0, .int .u8 0, .int .u8 0, .int .u8 0, .int .u8 0, .int .u8 0, .int .u8 0, .int .u8 0, .int .u8 0, .int .u8 0, .int .u8 0, .int .u8 0, .int .u8 0, .int .u8 0, .int .u8 0, .int .u8 0, .int .u8 0, .int .u8 0, .int .u8 0, .int .u8 0, .int .u8 0, .int .u8 0, .int .u8 0, .int .u8 0, .int .u8 0, .int .u8 0, .int .u8 0, .int .u8 0, .int .u8 0, .int .u8 0, .int .u8 0, .int .u8 0, .int .u8 0, .int .u8 0, .int .u8 0, .int .u8 0, .int .u8 0, .int .u8 0, .int .u8 0, .int .u8 0, .int .u8 0, .int .u8 0, .int .u8 0, .int .u8 0, .int .u8 0, .int .u8 0, .int .u8 0, .int .u8 0, .int .u8 0, .int .i64 0]
theorem inf59 : (Tryz.prog.info? 59).map (fun i => (i.zero, i.size, i.bytes)) = some (some (Value.agg zl59.toArray), 101, 136) := by kernel_rfl
theorem zr59 : (Tryz.prog.info? 59).bind (·.zero) = some (Value.agg zl59.toArray) := by kernel_rfl
def zl82 : List Value := [.int .i64 0, .int .u64 0, .int .u64 0, .int .u64 0, .int .u64 0, .int .i64 0, .int .i64 0, .int .u8 0, .int .u8 0, .int .u8 0, .int .u8 0, .int .u8 0, .int .u8 0, .int .u8 0, .int .u8 0, .int .u8 0, .int .u8 0, .int .u8 0, .int .u8 0, .int .u8 0, .int .u8 0, .int .u8 0, .int .u8 0, .int .u8 0, .int .u8 0, .int .u8 0, .int .u8 0, .int .u8 0, .int .u8 0, .int .u8 0, .int .u8 0, .int .u8 0, .int .u8 0, .int .u8 0, .int .u8 0, .int .u8 0, .int .u8 0, .int .u8 0, .int .u8 0, .int .i64 0, .slice none 0 0]
theorem inf82 : (Tryz.prog.info? 82).map (fun i => (i.zero, i.size, i.bytes)) = some (some (Value.agg zl82.toArray), 41, 120) := by kernel_rfl
theorem zr82 : (Tryz.prog.info? 82).bind (·.zero) = some (Value.agg zl82.toArray) := by kernel_rfl
def zl89 : List Value := [.int .i64 0, .int .u8 0, .int .u8 0, .int .u8 0, .int .u8 0, .int .u8 0, .int .u8 0, .int .u8 0, .int .u8 0, .int .u8 0, .int .u8 0, .int .u8 0, .int .u8 0, .int .u8 0, .int .u8 0, .int .u8 0, .int .u8 0, .int .u8 0, .int .u8 0, .int .u8 0, .int .u8 0, .int .u8 0, .int .u8 0, .int .u8 0, .int .u8 0, .int .u8 0, .int .u8 0, .int .u8 0, .int .u8 0, .int .u8 0, .int .u8 0, .int .u8 0, .int .u8 0]
theorem inf89 : (Tryz.prog.info? 89).map (fun i => (i.zero, i.size, i.bytes)) = some (some (Value.agg zl89.toArray), 33, 40) := by kernel_rfl
theorem zr89 : (Tryz.prog.info? 89).bind (·.zero) = some (Value.agg zl89.toArray) := by kernel_rfl
def zl91 : List Value := [.int .i64 0, .int .i64 0, .int .i64 0, .int .i64 0, .int .u8 0, .int .u8 0, .int .u8 0, .int .u8 0, .int .u8 0, .int .u8 0, .int .u8 0, .int .u8 0, .int .u8 0, .int .u8 0, .int .u8 0, .int .u8 0, .int .u8 0, .int .u8 0, .int .u8 0, .int .u8 0, .int .u8 0, .int .u8 0, .int .u8 0, .int .u8 0, .int .u8 0, .int .u8 0, .int .u8 0, .int .u8 0, .int .u8 0, .int .u8 0, .int .u8 0, .int .u8 0, .int .u8 0, .int .u8 0, .int .u8 0, .int .u8 0, .int .u8 0, .int .u8 0, .int .u8 0, .int .u8 0, .int .u8 0, .int .u8 0, .int .u8 0, .int .u8 0, .int .u8 0, .int .u8 0, .int .u8 0, .int .u8 0, .int .u8 0, .int .u8 0, .int .u8 0, .int .u8 0, .int .u8 0, .int .u8 0, .int .u8 0, .int .u8 0, .int .u8 0, .int .u8 0, .int .u8 0, .int .u8 0, .int .u8 0, .int .u8 0, .int .u8 0, .int .u8 0, .int .u8 0, .int .u8 0, .int .u8 0, .int .u8 0, .int .u8 0, .int .u8 0, .int .u8 0, .int .u8 0, .int .u8 0, .int .u8 0, .int .u8 0, .int .u8 0, .int .u8 0, .int .u8 0, .int .u8 0, .int .u8 0, .int .u8 0, .int .u8 0, .int .u8 0, .int .u8 0, .int .u8 0, .int .u8 0, .int .u8 0, .int .u8 0, .int .u8 0, .int .u8 0, .int .u8 0, .int .u8 0, .int .u8 0, .int .u8 0, .int .u8 0, .int .u8 0, .int .u8 0, .int .u8 0, .int .u8 0, .int .u8 0, .int .i64 0, .int .i64 0, .int .i64 0, .int .i64 0, .int .u8 0, .int .u8 0, .int .u8 0, .int .u8 0, .int .u8 0, .int .u8 0, .int .u8 0, .int .u8 0, .int .u8 0, .int .u8 0, .int .u8 0, .int .u8 0, .int .u8 0, .int .u8 0, .int .u8 0, .int .u8 0, .int .u8 0, .int .u8 0, .int .u8 0, .int .u8 0, .int .u8 0, .int .u8 0, .int .u8 0, .int .u8 0, .int .u8 0, .int .u8 0, .int .u8 0, .int .u8 0, .int .u8 0, .int .u8 0, .int .u8 0, .int .u8 0, .slice none 0 0, .slice none 0 0, .slice none 0 0, .slice none 0 0, .int .i64 0, .int .u8 0, .int .u8 0, .int .u8 0, .int .u8 0, .int .u8 0, .int .u8 0, .int .u8 0, .int .u8 0, .int .u8 0, .int .u8 0, .int .u8 0, .int .u8 0, .int .u8 0, .int .u8 0, .int .u8 0, .int .u8 0, .int .u8 0, .int .u8 0, .int .u8 0, .int .u8 0, .int .u8 0, .int .u8 0, .int .u8 0, .int .u8 0, .int .u8 0, .int .u8 0, .int .u8 0, .int .u8 0, .int .u8 0, .int .u8 0, .int .u8 0, .int .u8 0]
theorem inf91 : (Tryz.prog.info? 91).map (fun i => (i.zero, i.size, i.bytes)) = some (some (Value.agg zl91.toArray), 173, 328) := by kernel_rfl
theorem zr91 : (Tryz.prog.info? 91).bind (·.zero) = some (Value.agg zl91.toArray) := by kernel_rfl
def zl98 : List Value := [.int .i64 0, .int .i64 0, .int .i64 0, .int .u8 0, .int .u8 0, .int .u8 0, .int .u8 0, .int .u8 0, .int .u8 0, .int .u8 0, .int .u8 0, .int .u8 0, .int .u8 0, .int .u8 0, .int .u8 0, .int .u8 0, .int .u8 0, .int .u8 0, .int .u8 0, .int .u8 0, .int .u8 0, .int .u8 0, .int .u8 0, .int .u8 0, .int .u8 0, .int .u8 0, .int .u8 0, .int .u8 0, .int .u8 0, .int .u8 0, .int .u8 0, .int .u8 0, .int .u8 0, .int .u8 0, .int .u8 0, .int .i64 0, .int .i64 0, .int .u8 0, .int .u8 0, .int .u8 0, .int .u8 0, .int .u8 0, .int .u8 0, .int .u8 0, .int .u8 0, .int .u8 0, .int .u8 0, .int .u8 0, .int .u8 0, .int .u8 0, .int .u8 0, .int .u8 0, .int .u8 0, .int .u8 0, .int .u8 0, .int .u8 0, .int .u8 0, .int .u8 0, .int .u8 0, .int .u8 0, .int .u8 0, .int .u8 0, .int .u8 0, .int .u8 0, .int .u8 0, .int .u8 0, .int .u8 0, .int .u8 0, .int .u8 0]
theorem inf98 : (Tryz.prog.info? 98).map (fun i => (i.zero, i.size, i.bytes)) = some (some (Value.agg zl98.toArray), 69, 104) := by kernel_rfl
theorem zr98 : (Tryz.prog.info? 98).bind (·.zero) = some (Value.agg zl98.toArray) := by kernel_rfl
def zl105 : List Value := [.int .i64 0, .int .i64 0, .int .i64 0, .int .i64 0, .int .i64 0, .int .i64 0, .int .u8 0, .int .u8 0, .int .u8 0, .int .u8 0, .int .u8 0, .int .u8 0, .int .u8 0, .int .u8 0, .int .u8 0, .int .u8 0, .int .u8 0, .int .u8 0, .int .u8 0, .int .u8 0, .int .u8 0, .int .u8 0, .int .u8 0, .int .u8 0, .int .u8 0, .int .u8 0, .int .u8 0, .int .u8 0, .int .u8 0, .int .u8 0, .int .u8 0, .int .u8 0, .int .u8 0, .int .u8 0, .int .u8 0, .int .u8 0, .int .u8 0, .int .u8 0, .slice none 0 0, .slice none 0 0, .int .i64 0, .int .i64 0, .int .u8 0, .int .u8 0, .int .u8 0, .int .u8 0, .int .u8 0, .int .u8 0, .int .u8 0, .int .u8 0, .int .u8 0, .int .u8 0, .int .u8 0, .int .u8 0, .int .u8 0, .int .u8 0, .int .u8 0, .int .u8 0, .int .u8 0, .int .u8 0, .int .u8 0, .int .u8 0, .int .u8 0, .int .u8 0, .int .u8 0, .int .u8 0, .int .u8 0, .int .u8 0, .int .u8 0, .int .u8 0, .int .u8 0, .int .u8 0, .int .u8 0, .int .u8 0]
theorem inf105 : (Tryz.prog.info? 105).map (fun i => (i.zero, i.size, i.bytes)) = some (some (Value.agg zl105.toArray), 74, 176) := by kernel_rfl
theorem zr105 : (Tryz.prog.info? 105).bind (·.zero) = some (Value.agg zl105.toArray) := by kernel_rfl
def zl160 : List Value := [.pointer none]
theorem inf160 : (Tryz.prog.info? 160).map (fun i => (i.zero, i.size, i.bytes)) = some (some (.pointer none), 1, 8) := by kernel_rfl
theorem zr160 : (Tryz.prog.info? 160).bind (·.zero) = some (.pointer none) := by kernel_rfl
def zl164 : List Value := [.string ⟨#[]⟩, .nilIface]
theorem inf164 : (Tryz.prog.info? 164).map (fun i => (i.zero, i.size, i.bytes)) = some (some (Value.agg zl164.toArray), 2, 32) := by kernel_rfl
theorem zr164 : (Tryz.prog.info? 164).bind (·.zero) = some (Value.agg zl164.toArray) := by kernel_rfl
def zl177 : List Value := [.slice none 0 0, .nilIface]
theorem inf177 : (Tryz.prog.info? 177).map (fun i => (i.zero, i.size, i.bytes)) = some (some (Value.agg zl177.toArray), 2, 40) := by kernel_rfl
theorem zr177 : (Tryz.prog.info? 177).bind (·.zero) = some (Value.agg zl177.toArray) := by kernel_rfl
def zl269 : List Value := [.string ⟨#[]⟩]
theorem inf269 : (Tryz.prog.info? 269).map (fun i => (i.zero, i.size, i.bytes)) = some (some (Value.agg zl269.toArray), 1, 16) := by kernel_rfl
theorem zr269 : (Tryz.prog.info? 269).bind (·.zero) = some (Value.agg zl269.toArray) := by kernel_rfl
end Go.Proofs.YtddpmpbngcbokaaGreatDoor
