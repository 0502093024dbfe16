/-
The walk of the form of digests.
-/
import Derived.Test.YteleheamnighkaaDoorDig5
set_option linter.unusedVariables false
set_option linter.unusedSimpArgs false
namespace Go.Dig
/-- The digits of digests. -/
def hexs : List UInt8 := [48, 49, 50, 51, 52, 53, 54, 55, 56, 57, 97, 98, 99, 100, 101, 102]
def isHex (c : UInt8) : Bool := hexs.contains c
def isD (l : List UInt8) : Bool := l.length == 16 && l.all isHex
end Go.Dig
namespace Go.Proofs.YteleheamnighkaaDoor
open Go.RowKit Go.DoorKit
theorem dropWhile_nil {α : Type} (p : α → Bool) : ∀ l : List α, l.dropWhile p = [] ↔ l.all p = true
  | [] => by simp
  | x :: l => by
    rw [List.dropWhile_cons]
    by_cases h : p x = true
    · rw [if_pos h, dropWhile_nil p l, List.all_cons, h, Bool.true_and]
    · rw [if_neg h]; simp [h]
theorem all_reverse {α : Type} (p : α → Bool) (l : List α) : l.reverse.all p = l.all p := by simp
theorem take_all {α : Type} (p : α → Bool) : ∀ l : List α, (l.takeWhile p).all p = true
  | [] => rfl
  | x :: l => by
    rw [List.takeWhile_cons]
    by_cases h : p x = true
    · rw [if_pos h, List.all_cons, h, take_all p l]; rfl
    · rw [if_neg h]; rfl
theorem trim_nil (l cs : List UInt8) : Lib.trimS l cs = [] ↔ l.all (cs.contains ·) = true := by
  unfold Lib.trimS Lib.trimLeftS Lib.trimRightS
  rw [dropWhile_nil, all_reverse]
  constructor
  · intro h
    have h2 := List.takeWhile_append_dropWhile (p := fun c => cs.contains c) (l := l.reverse)
    have h3 : l.reverse.all (fun c => cs.contains c) = true := by
      rw [← h2, List.all_append, h, Bool.and_true]
      exact take_all _ _
    rwa [all_reverse] at h3
  · intro h
    have : List.dropWhile (fun c => cs.contains c) l.reverse = [] := (dropWhile_nil _ _).2 (by rw [all_reverse]; exact h)
    rw [this]; rfl
theorem trim_any (s : ByteArray) (hs : s.size ≤ 9223372036854775807) (w : World) :
    Calls Tryd.prog 45 #[.string s, .string ⟨#[48, 49, 50, 51, 52, 53, 54, 55, 56, 57, 97, 98, 99, 100, 101, 102]⟩] w fun e w' => (∃ t : ByteArray, e = .returned (.string t) ∧ Hid (t.data.toList = [] ↔ s.data.toList.all Dig.isHex = true)) ∧ Below w.heap.size w w' := by
  refine (Tryd.strings_Trim_set s _ w hs (by decide) (ascii_of_all (by decide))).mono ?_
  rintro e w' ⟨rfl, hb⟩
  exact ⟨⟨_, rfl, Lib.hid (trim_nil s.data.toList Dig.hexs)⟩, hb⟩
set_option maxRecDepth 100000 in
set_option maxHeartbeats 400000 in
theorem is_calls (s : ByteArray) (hs : s.size ≤ 9223372036854775807) (w : World) :
    Calls Tryd.prog 21 #[.string s] w fun e w' => e = .returned (.bool (Dig.isD s.data.toList)) ∧ Below w.heap.size w w' := by
  have hl : s.data.toList.length = s.size := by simp
  by_cases h : s.size = 16
  · have h1 : ((s.size : Int) == 16) = true := by simp [h]
    have HD : Hid (Dig.isD s.data.toList = s.data.toList.all Dig.isHex) := Lib.hid (by unfold Dig.isD; rw [hl, h]; rfl)
    clear h hl
    go_enter Tryd.func21, Tryd.ntmps21
    go_wp2_with (go_at_call 45; refine (trim_any s hs _).mono ?_; rintro e w2 ⟨⟨t, rfl, ht⟩, hb⟩)
    go_ret
    refine ⟨?_, hb⟩
    rw [HD.out]
    show Ending.returned (.bool t.toList.isEmpty) = _
    have : t.toList.isEmpty = s.data.toList.all Dig.isHex := by
      rw [Bool.eq_iff_iff, ← ht.out, List.isEmpty_iff, ByteArray.toList_eq]
    rw [this]
  · have h1 : ((s.size : Int) == 16) = false := by simp; omega
    have HD : Hid (Dig.isD s.data.toList = false) := Lib.hid (by unfold Dig.isD; rw [hl]; simp [h])
    clear hl
    go_enter Tryd.func21, Tryd.ntmps21
    go_wp2_with fail
    go_ret
    exact ⟨by rw [HD.out]; rfl, Below.refl _ _⟩
end Go.Proofs.YteleheamnighkaaDoor
