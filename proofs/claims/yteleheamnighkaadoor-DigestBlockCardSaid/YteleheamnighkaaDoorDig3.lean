/-
The walk of the digest's digits.
-/
import Derived.Test.YteleheamnighkaaDoorDig2
set_option linter.unusedVariables false
set_option linter.unusedSimpArgs false
namespace Go.Proofs.YteleheamnighkaaDoor
open Go.RowKit Go.DoorKit
def digA (i : Nat) : Array Value := ((List.range 16).map fun j => if j < i then Value.int .u8 ((Dig.hexd j).toNat : Int) else .int .u8 0).toArray
theorem digA_zero : (#[.int .u8 0, .int .u8 0, .int .u8 0, .int .u8 0, .int .u8 0, .int .u8 0, .int .u8 0, .int .u8 0, .int .u8 0, .int .u8 0, .int .u8 0, .int .u8 0, .int .u8 0, .int .u8 0, .int .u8 0, .int .u8 0] : Array Value) = digA 0 := rfl
theorem digA_get (i : Nat) (hi : i < 16) : (digA i)[i]? = some (.int .u8 0) := by
  simp only [digA, List.getElem?_toArray, List.getElem?_map]
  rw [List.getElem?_range hi]; simp
theorem digA_size (i : Nat) : (digA i).size = 16 := by simp [digA]
theorem set_get {a : Array Value} {i : Nat} (hi : i < a.size) (x : Value) : (a.setIfInBounds i x)[i]? = some x := by simp [hi]
theorem hexd_lo {i : Nat} (h : i < 10) : ((Dig.hexd i).toNat : Int) = 48 + (i : Int) := by
  unfold Dig.hexd; rw [if_pos h, UInt8.toNat_ofNat']; omega
theorem hexd_hi {i : Nat} (h : 10 ≤ i) (h2 : i < 16) : ((Dig.hexd i).toNat : Int) = 97 + (i : Int) - 10 := by
  unfold Dig.hexd; rw [if_neg (by omega), UInt8.toNat_ofNat']; omega
theorem digA_succ (i : Nat) (x : Int) (h : x = ((Dig.hexd i).toNat : Int)) : (digA i).setIfInBounds i (.int .u8 x) = digA (i + 1) := by
  subst h
  apply Array.ext
  · simp [digA]
  · intro k h1 h2
    rw [Array.getElem_setIfInBounds (by simpa using h1)]
    simp only [digA, List.getElem_toArray, List.getElem_map, List.getElem_range]
    by_cases h : i = k
    · subst h; rw [if_pos rfl, if_pos (by omega)]
    · rw [if_neg h]
      by_cases h3 : k < i
      · rw [if_pos h3, if_pos (by omega)]
      · rw [if_neg h3, if_neg (by omega)]
theorem set_set {a : Array Value} {i : Nat} (x y : Value) : (a.setIfInBounds i x).setIfInBounds i y = a.setIfInBounds i y := by simp
theorem digA_16 : digA 16 = #[.int .u8 48, .int .u8 49, .int .u8 50, .int .u8 51, .int .u8 52, .int .u8 53, .int .u8 54, .int .u8 55, .int .u8 56, .int .u8 57, .int .u8 97, .int .u8 98, .int .u8 99, .int .u8 100, .int .u8 101, .int .u8 102] := rfl
set_option maxRecDepth 100000 in
set_option maxHeartbeats 400000 in
theorem digits_calls (w : World) :
    Calls Tryd.prog 40 #[] w fun e w' => e = .returned (.agg (digA 16)) ∧ Below w.heap.size w w' := by
  go_enter Tryd.func40, Tryd.ntmps40
  go_wp2
  go_loopw [2, 3] (fun v2 v3 wr => ∃ i : Nat, i ≤ 16 ∧ v3 = .int .i64 i ∧ wr = (w.alloc (.cells (digA 0) 60)).alloc (.cells (digA i) 60)) (fun _ v3 _ => 16 - (intOf v3).toNat)
  case atStart => exact ⟨0, by omega, rfl, rfl⟩
  case round =>
    obtain ⟨i, hi, rfl, rfl⟩ := hrel
    by_cases hlt : i < 16
    · have hg := digA_get i hlt
      have hs := fun x => set_get (a := digA i) (i := i) (by rw [digA_size]; exact hlt) x
      have hss := fun x y => set_set (a := digA i) (i := i) x y
      by_cases h10 : 10 ≤ i
      · have hx := Lib.hid (digA_succ i _ (hexd_hi h10 hlt).symm)
        go_wp2
        go_roundw
        case rel => exact ⟨i + 1, by omega, by go_num, by rw [hx.out]⟩
        case measure => simp [intOf]; omega
      · have hx := Lib.hid (digA_succ i _ (hexd_lo (by omega)).symm)
        go_wp2
        go_roundw
        case rel => exact ⟨i + 1, by omega, by go_num, by rw [hx.out]⟩
        case measure => simp [intOf]; omega
    · obtain rfl : i = 16 := by omega
      rw [digA_16, ← digA_zero]
      go_wp2

      exact bodyPost_ret (v := .agg (digA 16)) (by rw [digA_16]; simp [results, Tryd.results40, go_sem]) rfl ⟨rfl, ((Below.refl _ _).alloc (Nat.le_refl _) _).alloc (by simp) _⟩
end Go.Proofs.YteleheamnighkaaDoor
