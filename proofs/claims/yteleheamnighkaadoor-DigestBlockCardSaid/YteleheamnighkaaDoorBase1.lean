/-
What the references' small functions compute, and their contracts in the printer's form, without rounds.
-/
import Derived.Test.YteleheamnighkaaDoorPBasex1
import Derived.Test.YteleheamnighkaaDoorPBasex2
import Derived.Test.YteleheamnighkaaDoorPBasex3
import Derived.Test.YteleheamnighkaaDoorGiven
set_option linter.unusedVariables false
set_option linter.unusedSimpArgs false
namespace Go.Proofs.YteleheamnighkaaDoor
open Go.RowKit Go.Proofs.YteleheamnighkaaDoorW.PrintWords
namespace BaseFacts
theorem w64 (n : Nat) (h : n ≤ 140737488355328) : wrap64 ((n : Int) + 1) = ((n + 1 : Nat) : Int) := by unfold wrap64; omega
theorem w63 (n : Nat) (h : n < 9223372036854775807) : wrap64 ((n : Int) + 1) = ((n + 1 : Nat) : Int) := by unfold wrap64; omega
theorem rdOf_at (l : List ByteArray) (i : Nat) (h : i < l.length) : rdOf ByteArray.empty l (i : Int) = l[i] := by simp [rdOf, List.getD, h]
theorem all_take_succ {α : Type} (p : α → Bool) (l : List α) (i : Nat) (h : i < l.length) (ht : (l.take i).all p = true) (hp : p l[i] = true) : (l.take (i + 1)).all p = true := by
  rw [List.take_succ_eq_append_getElem h, List.all_append, ht]; simp [hp]
theorem all_no {α : Type} (p : α → Bool) (l : List α) (i : Nat) (h : i < l.length) (hp : p l[i] = false) : l.all p = false := by
  rw [List.all_eq_false]
  exact ⟨l[i], List.getElem_mem h, by simp [hp]⟩

/-! Few -/
def few (l : List ByteArray) (m : Int) : Bool := l.all (fun s => decide ((s.size : Int) ≤ m)) && decide (l.length ≤ 30)
theorem few_l0 (l : List ByteArray) (m : Int) (hl : l.length ≤ 9223372036854775807) : ∀ (d i k : Nat), i + d = l.length → d < k → (l.take i).all (fun s => decide ((s.size : Int) ≤ m)) = true →
    PBase.planisphereref01_Few.l0 k l m i = some (few l m) := by
  intro d
  induction d with
  | zero =>
    intro i k hi hk ht
    obtain ⟨k, rfl⟩ : ∃ n, k = n + 1 := ⟨k - 1, by omega⟩
    simp only [PBase.planisphereref01_Few.l0]
    rw [if_neg (by omega)]
    rw [List.take_of_length_le (by omega)] at ht
    unfold few; rw [ht, Bool.true_and]
    congr 1
    rw [decide_eq_decide]; omega
  | succ d ih =>
    intro i k hi hk ht
    obtain ⟨k, rfl⟩ : ∃ n, k = n + 1 := ⟨k - 1, by omega⟩
    have hlt : i < l.length := by omega
    simp only [PBase.planisphereref01_Few.l0]
    rw [if_pos (by omega), if_pos (by omega), rdOf_at l i hlt]
    by_cases hs : ((l[i]).size : Int) > m
    · rw [if_pos hs]
      unfold few
      rw [all_no (fun s => decide ((s.size : Int) ≤ m)) l i hlt (by simp; omega)]; rfl
    · rw [if_neg hs, w63 i (by omega)]
      exact ih (i + 1) k (by omega) (by omega) (all_take_succ _ l i hlt ht (by simp; omega))
theorem few_f (l : List ByteArray) (m : Int) (hl : l.length ≤ 9223372036854775807) : PBase.planisphereref01_Few.f (l.length + 1) l m = some (few l m) :=
  few_l0 l m hl l.length 0 _ (by omega) (by omega) rfl

/-! short -/
def shortT (l : List ByteArray) : Bool := l.all (fun s => decide (s.size ≤ 300))
theorem short_l0 (l : List ByteArray) (hl : l.length ≤ 9223372036854775807) : ∀ (d i k : Nat), i + d = l.length → d < k → (l.take i).all (fun s => decide (s.size ≤ 300)) = true →
    PBase.planispherelaw02_short.l0 k l i = some (shortT l) := by
  intro d
  induction d with
  | zero =>
    intro i k hi hk ht
    obtain ⟨k, rfl⟩ : ∃ n, k = n + 1 := ⟨k - 1, by omega⟩
    simp only [PBase.planispherelaw02_short.l0]
    rw [if_neg (by omega)]
    rw [List.take_of_length_le (by omega)] at ht
    unfold shortT; rw [ht]
  | succ d ih =>
    intro i k hi hk ht
    obtain ⟨k, rfl⟩ : ∃ n, k = n + 1 := ⟨k - 1, by omega⟩
    have hlt : i < l.length := by omega
    simp only [PBase.planispherelaw02_short.l0]
    rw [if_pos (by omega), if_pos (by omega), rdOf_at l i hlt]
    by_cases hs : ((l[i]).size : Int) > 300
    · rw [if_pos hs]
      unfold shortT
      rw [all_no (fun s => decide (s.size ≤ 300)) l i hlt (by simp; omega)]
    · rw [if_neg hs, w63 i (by omega)]
      exact ih (i + 1) k (by omega) (by omega) (all_take_succ _ l i hlt ht (by simp; omega))
theorem short_f (l : List ByteArray) (hl : l.length ≤ 9223372036854775807) : PBase.planispherelaw02_short.f (l.length + 1) l = some (shortT l) :=
  short_l0 l hl l.length 0 _ (by omega) (by omega) rfl

/-! Same -/
theorem same_l0 (l m : List ByteArray) (hl : l.length ≤ 9223372036854775807) (hlm : l.length = m.length) : ∀ (d i k : Nat), i + d = l.length → d < k → l.take i = m.take i →
    PBase.planisphereref01_Same.l0 k l m i = some (decide (l = m)) := by
  intro d
  induction d with
  | zero =>
    intro i k hi hk ht
    obtain ⟨k, rfl⟩ : ∃ n, k = n + 1 := ⟨k - 1, by omega⟩
    simp only [PBase.planisphereref01_Same.l0]
    rw [if_neg (by omega)]
    rw [List.take_of_length_le (by omega), List.take_of_length_le (by omega)] at ht
    rw [ht]; simp
  | succ d ih =>
    intro i k hi hk ht
    obtain ⟨k, rfl⟩ : ∃ n, k = n + 1 := ⟨k - 1, by omega⟩
    have h1 : i < l.length := by omega
    have h2 : i < m.length := by omega
    simp only [PBase.planisphereref01_Same.l0]
    rw [if_pos (by omega), if_pos (by omega), if_pos (by omega), rdOf_at l i h1, rdOf_at m i h2]
    by_cases hs : (l[i]).toList = (m[i]).toList
    · rw [if_pos hs, w63 i (by omega)]
      have he : l[i] = m[i] := tx_inj (by show (l[i]).data.toList = (m[i]).data.toList; rw [← ByteArray.toList_eq, ← ByteArray.toList_eq]; exact hs)
      exact ih (i + 1) k (by omega) (by omega) (by rw [List.take_succ_eq_append_getElem h1, List.take_succ_eq_append_getElem h2, ht, he])
    · rw [if_neg hs]
      have : l ≠ m := by rintro rfl; exact hs rfl
      simp [this]
theorem same_f (l m : List ByteArray) (hl : l.length ≤ 9223372036854775807) : PBase.planisphereref01_Same.f (l.length + 1) l m = some (decide (l = m)) := by
  unfold PBase.planisphereref01_Same.f
  by_cases h : l.length = m.length
  · rw [if_pos (by omega)]; exact same_l0 l m hl h l.length 0 _ (by omega) (by omega) rfl
  · rw [if_neg (by omega)]
    have : l ≠ m := by rintro rfl; exact h rfl
    simp [this]
theorem same_any (l m : List ByteArray) (hl : l.length ≤ 9223372036854775807) (k : Nat) (hk : l.length < k) : PBase.planisphereref01_Same.f k l m = some (decide (l = m)) := by
  unfold PBase.planisphereref01_Same.f
  by_cases h : l.length = m.length
  · rw [if_pos (by omega)]; exact same_l0 l m hl h l.length 0 _ (by omega) (by omega) rfl
  · rw [if_neg (by omega)]
    have : l ≠ m := by rintro rfl; exact h rfl
    simp [this]

/-! Power -/
theorem power_l0 (n : Nat) (hn : n ≤ 62) : ∀ (d i k : Nat), i + d = n → d < k → PBase.planisphereref02_Power.l0 k n ((2 ^ i : Nat) : Int) i = some ((2 ^ n : Nat) : Int) := by
  intro d
  induction d with
  | zero =>
    intro i k hi hk
    obtain ⟨k, rfl⟩ : ∃ n, k = n + 1 := ⟨k - 1, by omega⟩
    simp only [PBase.planisphereref02_Power.l0]
    rw [if_neg (by omega)]
    rw [show i = n by omega]
  | succ d ih =>
    intro i k hi hk
    obtain ⟨k, rfl⟩ : ∃ n, k = n + 1 := ⟨k - 1, by omega⟩
    have hp : 2 ^ (i + 1) ≤ 2 ^ 62 := Nat.pow_le_pow_right (by decide) (by omega)
    have he : wrap64 (2 * ((2 ^ i : Nat) : Int)) = ((2 ^ (i + 1) : Nat) : Int) := by
      rw [Nat.pow_succ] at hp ⊢
      generalize 2 ^ i = x at *
      unfold wrap64; omega
    simp only [PBase.planisphereref02_Power.l0]
    rw [if_pos (by omega), he, w63 i (by omega)]
    exact ih (i + 1) k (by omega) (by omega)
theorem power_f (n : Nat) (hn : n ≤ 62) : PBase.planisphereref02_Power.f (n + 1) n = some ((2 ^ n : Nat) : Int) := power_l0 n hn n 0 _ (by omega) (by omega)

/-! A seal's Few -/
def fewS (s p : List ByteArray) : Bool := (s.take 30).all (fun x => decide (x.size ≤ 100)) && ((p.take 30).all (fun x => decide (x.size ≤ 100)) && (decide (s.length ≤ 30) && decide (p.length ≤ 30)))
theorem fewS_l1 (a : Int) (s p : List ByteArray) (hs : (s.take 30).all (fun x => decide (x.size ≤ 100)) = true) : ∀ (d i k : Nat), i + d = min p.length 30 → 2 * d + 1 < k → (p.take i).all (fun x => decide (x.size ≤ 100)) = true →
    PBase.planisphereref02_Few.l1 k i a s p = some (fewS s p) := by
  intro d
  have fin : ∀ (i k : Nat), i = min p.length 30 → 1 < k → (p.take i).all (fun x => decide (x.size ≤ 100)) = true → PBase.planisphereref02_Few.l1 k i a s p = some (fewS s p) := by
    intro i k hi hk ht
    obtain ⟨k, rfl⟩ : ∃ n, k = n + 2 := ⟨k - 2, by omega⟩
    have hj : PBase.planisphereref02_Few.j3 (k + 1) i false a s p = some (fewS s p) := by
      simp only [PBase.planisphereref02_Few.j3]
      rw [if_neg (by simp)]
      have h3 : (p.take 30).all (fun x => decide (x.size ≤ 100)) = true := by
        by_cases h30 : p.length ≤ 30
        · rw [List.take_of_length_le h30]; rwa [List.take_of_length_le (by omega)] at ht
        · rwa [show i = 30 by omega] at ht
      unfold fewS; rw [hs, h3, Bool.true_and, Bool.true_and]
      by_cases h4 : s.length ≤ 30
      · rw [if_pos (by omega), decide_eq_true h4, Bool.true_and]; congr 1; rw [decide_eq_decide]; omega
      · rw [if_neg (by omega), decide_eq_false h4, Bool.false_and]
    simp only [PBase.planisphereref02_Few.l1]
    by_cases hlt : (i : Int) < p.length
    · rw [if_pos hlt, decide_eq_false (by omega)]; exact hj
    · rw [if_neg hlt]; exact hj
  induction d with
  | zero => intro i k hi hk ht; exact fin i k (by omega) (by omega) ht
  | succ d ih =>
    intro i k hi hk ht
    obtain ⟨k, rfl⟩ : ∃ n, k = n + 2 := ⟨k - 2, by omega⟩
    have hlt : i < p.length := by omega
    simp only [PBase.planisphereref02_Few.l1, PBase.planisphereref02_Few.j3]
    rw [if_pos (by omega), decide_eq_true (by omega), if_pos rfl, if_pos (by omega), if_pos (by omega), rdOf_at p i hlt]
    by_cases hx : ((p[i]).size : Int) > 100
    · rw [if_pos hx]
      have : (p.take 30).all (fun x => decide (x.size ≤ 100)) = false := by
        refine all_no _ _ i (by simp; omega) ?_
        rw [List.getElem_take]; simp; omega
      unfold fewS; rw [this]; simp
    · rw [if_neg hx, w63 i (by omega)]
      exact ih (i + 1) k (by omega) (by omega) (all_take_succ _ p i hlt ht (by simp; omega))
theorem fewS_l0 (a : Int) (s p : List ByteArray) : ∀ (d i k : Nat), i + d = min s.length 30 → 2 * d + 64 < k → (s.take i).all (fun x => decide (x.size ≤ 100)) = true →
    PBase.planisphereref02_Few.l0 k i a s p = some (fewS s p) := by
  intro d
  have fin : ∀ (i k : Nat), i = min s.length 30 → 64 < k → (s.take i).all (fun x => decide (x.size ≤ 100)) = true → PBase.planisphereref02_Few.l0 k i a s p = some (fewS s p) := by
    intro i k hi hk ht
    obtain ⟨k, rfl⟩ : ∃ n, k = n + 2 := ⟨k - 2, by omega⟩
    have hj : PBase.planisphereref02_Few.j1 (k + 1) i false a s p = some (fewS s p) := by
      simp only [PBase.planisphereref02_Few.j1]
      rw [if_neg (by simp)]
      have h3 : (s.take 30).all (fun x => decide (x.size ≤ 100)) = true := by
        by_cases h30 : s.length ≤ 30
        · rw [List.take_of_length_le h30]; rwa [List.take_of_length_le (by omega)] at ht
        · rwa [show i = 30 by omega] at ht
      exact fewS_l1 a s p h3 (min p.length 30) 0 k (by omega) (by omega) rfl
    simp only [PBase.planisphereref02_Few.l0]
    by_cases hlt : (i : Int) < s.length
    · rw [if_pos hlt, decide_eq_false (by omega)]; exact hj
    · rw [if_neg hlt]; exact hj
  induction d with
  | zero => intro i k hi hk ht; exact fin i k (by omega) (by omega) ht
  | succ d ih =>
    intro i k hi hk ht
    obtain ⟨k, rfl⟩ : ∃ n, k = n + 2 := ⟨k - 2, by omega⟩
    have hlt : i < s.length := by omega
    simp only [PBase.planisphereref02_Few.l0, PBase.planisphereref02_Few.j1]
    rw [if_pos (by omega), decide_eq_true (by omega), if_pos rfl, if_pos (by omega), if_pos (by omega), rdOf_at s i hlt]
    by_cases hx : ((s[i]).size : Int) > 100
    · rw [if_pos hx]
      have : (s.take 30).all (fun x => decide (x.size ≤ 100)) = false := by
        refine all_no _ _ i (by simp; omega) ?_
        rw [List.getElem_take]; simp; omega
      unfold fewS; rw [this]; simp
    · rw [if_neg hx, w63 i (by omega)]
      exact ih (i + 1) k (by omega) (by omega) (all_take_succ _ s i hlt ht (by simp; omega))
theorem fewS_f (a : Int) (s p : List ByteArray) : PBase.planisphereref02_Few.f 200 a s p = some (fewS s p) :=
  fewS_l0 a s p (min s.length 30) 0 200 (by omega) (by omega) rfl
/-! A seal's Same -/
theorem sameS_f (a b : Int) (s p t q : List ByteArray) (hs : s.length ≤ 9223372036854775807) (hp : p.length ≤ 9223372036854775807) :
    PBase.planisphereref02_Same.f (s.length + p.length + 1) a s p b t q = some (decide (a = b) && (decide (s = t) && decide (p = q))) := by
  unfold PBase.planisphereref02_Same.f
  by_cases h : a = b
  · rw [if_pos h, same_any s t hs _ (by omega), decide_eq_true h, Bool.true_and]
    simp only [Option.bind_some]
    by_cases h2 : s = t
    · rw [if_pos (by simp [h2]), same_any p q hp _ (by omega), decide_eq_true h2, Bool.true_and]; rfl
    · rw [if_neg (by simp [h2]), decide_eq_false h2, Bool.false_and]
  · rw [if_neg h, decide_eq_false h, Bool.false_and]
end BaseFacts
end Go.Proofs.YteleheamnighkaaDoor
