/-
Plain facts that the digest's and the seal's laws share.
-/
import Derived.Test.YteleheamnighkaaDoorGiven3
set_option linter.unusedVariables false
set_option linter.unusedSimpArgs false
namespace Go.Proofs.YteleheamnighkaaDoor
open Go.RowKit Go.Proofs.YteleheamnighkaaDoorW.PrintWords
namespace Pure
theorem few_yes {l : List ByteArray} {m : Int} (h : BaseFacts.few l m = true) : (∀ s ∈ l, (s.size : Int) ≤ m) ∧ l.length ≤ 30 := by
  unfold BaseFacts.few at h
  simp only [Bool.and_eq_true, List.all_eq_true, decide_eq_true_eq] at h
  exact h
theorem need_of : ∀ {l : List ByteArray} {m : Nat}, (∀ s ∈ l, s.size ≤ m) → need l ≤ l.length * (m + 21)
  | [], m, _ => by simp [need]
  | s :: l, m, h => by
    have ih := need_of (l := l) (m := m) (fun x hx => h x (by simp [hx]))
    have e : need (s :: l) = s.size + 21 + need l := rfl
    have := h s (by simp)
    rw [e, List.length_cons, Nat.add_mul]; omega
theorem need_few {l : List ByteArray} (h : BaseFacts.few l 200 = true) : need l ≤ 140737488355328 := by
  obtain ⟨h1, h2⟩ := few_yes h
  have := need_of (l := l) (m := 200) (fun s hs => by have := h1 s hs; omega)
  have : l.length * (200 + 21) ≤ 30 * 221 := Nat.mul_le_mul h2 (Nat.le_refl _)
  omega
theorem sum_hex (l : List UInt8) : ∀ c ∈ Dig.sum l, Dig.isHex c = true := by
  intro c hc
  unfold Dig.sum Dig.hex at hc
  simp only [List.mem_map] at hc
  obtain ⟨i, _, rfl⟩ := hc
  have : ∀ t : Fin 16, Dig.isHex (Dig.hexd t.val) = true := by decide +kernel
  exact this ⟨_, Nat.mod_lt _ (by decide)⟩
theorem sum_isD (l : List UInt8) : Dig.isD (Dig.sum l) = true := by
  unfold Dig.isD
  rw [Dig.sum_len, Bool.and_eq_true]
  exact ⟨rfl, List.all_eq_true.2 (sum_hex l)⟩
theorem isD_len {l : List UInt8} (h : l.length ≠ 16) : Dig.isD l = false := by
  unfold Dig.isD; rw [show (l.length == 16) = false by simpa using h, Bool.false_and]
theorem size_1 (b : UInt8) : (⟨#[b]⟩ : ByteArray).size = 1 := rfl
theorem t_app (x y : ByteArray) : tx (x ++ y) = tx x ++ tx y := by show (x ++ y).data.toList = _; rw [ByteArray.data_append, Array.toList_append]
theorem t_ext (x : ByteArray) (i j : Nat) : tx (x.extract i j) = ((tx x).drop i).take (j - i) := by
  show (x.extract i j).data.toList = _
  rw [ByteArray.data_extract, Array.toList_extract]
theorem size_app (x y : ByteArray) : (x ++ y).size = x.size + y.size := by rw [← tx_len, t_app, List.length_append, tx_len, tx_len]
theorem size_ext (x : ByteArray) (i j : Nat) : (x.extract i j).size = min (j - i) (x.size - i) := by rw [← tx_len, t_ext, List.length_take, List.length_drop, tx_len]
theorem le_big {n : Nat} (h : n ≤ 5000) : n ≤ 9223372036854775807 := Nat.le_trans h (by decide)
theorem le_mid {n : Nat} (h : n ≤ 5000) : n ≤ 140737488355328 := Nat.le_trans h (by decide)
theorem mnN (a b : Nat) : mn (a : Int) (b : Int) = ((min a b : Nat) : Int) := by unfold mn; split <;> omega
theorem wrapN {n : Nat} (h : n ≤ 5000) : wrap64 (n : Int) = n := by unfold wrap64; omega
theorem natAdd (a b : Nat) : (a : Int) + (b : Int) = ((a + b : Nat) : Int) := by omega
end Pure
end Go.Proofs.YteleheamnighkaaDoor
