/-
The digest's functions as plain functions, and their contracts in the printer's form.
-/
import Derived.Test.YteleheamnighkaaDoorDig6
set_option linter.unusedVariables false
set_option linter.unusedSimpArgs false
namespace Go.Proofs.YteleheamnighkaaDoor
open Go.RowKit Go.DoorKit Go.Proofs.YteleheamnighkaaDoorW.PrintWords
/-- A text's bytes. -/
abbrev tx (s : ByteArray) : List UInt8 := s.data.toList
def ofT (l : List UInt8) : ByteArray := ⟨l.toArray⟩
theorem tx_ofT (l : List UInt8) : tx (ofT l) = l := rfl
theorem size_ofT (l : List UInt8) : (ofT l).size = l.length := by show l.toArray.size = _; simp
theorem ofT_tx (s : ByteArray) : ofT (tx s) = s := rfl
theorem tx_len (s : ByteArray) : (tx s).length = s.size := by simp
theorem tx_inj {s t : ByteArray} (h : tx s = tx t) : s = t := by rw [← ofT_tx s, h, ofT_tx]
/-- The greatest size. -/
def Big (n : Nat) : Prop := n ≤ 140737488355328
instance (n : Nat) : Decidable (Big n) := inferInstanceAs (Decidable (n ≤ 140737488355328))
theorem Big.out {n : Nat} (h : Big n) : n ≤ 140737488355328 := h

def digest_Sum.f (a0 : ByteArray) : Option ByteArray := if Big a0.size then some (ofT (Dig.sum (tx a0))) else none
theorem digest_Sum.calls (a0 : ByteArray) (r : ByteArray) (w : World) (h : digest_Sum.f a0 = some r) :
    Calls Tryd.prog 17 #[.string a0] w fun e w' => e = .returned (.string r) ∧ Below w.heap.size w w' := by
  unfold digest_Sum.f at h
  split at h
  · rename_i hb
    obtain rfl := Option.some.inj h
    exact sum_calls a0 (by have := hb.out; omega) w
  · cases h
def digest_Is.f (a0 : ByteArray) : Option Bool := if Big a0.size then some (Dig.isD (tx a0)) else none
theorem digest_Is.calls (a0 : ByteArray) (r : Bool) (w : World) (h : digest_Is.f a0 = some r) :
    Calls Tryd.prog 21 #[.string a0] w fun e w' => e = .returned (.bool r) ∧ Below w.heap.size w w' := by
  unfold digest_Is.f at h
  split at h
  · rename_i hb
    obtain rfl := Option.some.inj h
    exact is_calls a0 (by have := hb.out; omega) w
  · cases h
/-- How many bytes a list's joined text may have. -/
def need (l : List ByteArray) : Nat := (l.map fun s => s.size + 21).sum
theorem joined_need : ∀ l : List ByteArray, Big (need l) → (Dig.joined (l.map tx)).length ≤ need l
  | [], _ => Nat.zero_le _
  | s :: l, h => by
    have h' := h.out
    have e : need (s :: l) = s.size + 21 + need l := rfl
    rw [e] at h'
    have ih := joined_need l (show need l ≤ _ by omega)
    have hd := Dig.nDigits_le (u := (tx s).length) (k := 20) (by omega) (by rw [tx_len]; omega)
    rw [List.map_cons, Dig.joined_cons, List.length_append, Dig.piece_len, e, tx_len] at *
    omega
def digest_List.f (l0 : List ByteArray) : Option ByteArray := if Big (need l0) then some (ofT (Dig.sum (Dig.joined (l0.map tx)))) else none
theorem digest_List.calls (A0 : Option Addr) (c0 : Nat) (l0 : List ByteArray) (r : ByteArray) (w : World) (hr0 : Kd.C Kd.string w A0 l0.length l0) (hc0 : l0.length ≤ c0) (h : digest_List.f l0 = some r) (hG : Glob w) :
    Calls Tryd.prog 19 #[.slice A0 l0.length c0] w fun e w' => e = .returned (.string r) ∧ Below w.heap.size w w' := by
  unfold digest_List.f at h
  split at h
  · rename_i hb
    obtain rfl := Option.some.inj h
    exact list_calls A0 c0 l0 w hr0 hc0 (Nat.le_trans (joined_need l0 hb) hb.out) hG
  · cases h
end Go.Proofs.YteleheamnighkaaDoor
