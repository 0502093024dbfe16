import Derived.Lib.ItoaLen
set_option linter.unusedVariables false
set_option linter.unusedSimpArgs false
namespace Go.Dig
open Go.Lib
/-! Numerals. -/
def val (l : List UInt8) : Nat := l.foldl (fun v c => v * 10 + (c.toNat - 48)) 0
theorem val_snoc (l : List UInt8) (c : UInt8) : val (l ++ [c]) = val l * 10 + (c.toNat - 48) := by simp [val]
theorem digit_toNat {u : Nat} (h : u < 10) : (UInt8.ofNat (48 + u)).toNat = 48 + u := by
  rw [UInt8.toNat_ofNat']; omega
theorem val_dec (u : Nat) : val (decDigits u) = u := by
  induction u using Nat.strongRecOn with
  | _ u ih =>
    rw [decDigits]
    by_cases h : u < 10
    · rw [dif_pos h]
      simp only [val, List.foldl_cons, List.foldl_nil, digit_toNat h]; omega
    · rw [dif_neg h, val_snoc, ih (u / 10) (by omega), digit_toNat (by omega)]; omega
theorem dec_digit (u : Nat) : ∀ c ∈ decDigits u, 48 ≤ c.toNat ∧ c.toNat ≤ 57 := by
  induction u using Nat.strongRecOn with
  | _ u ih =>
    rw [decDigits]
    by_cases h : u < 10
    · rw [dif_pos h]
      intro c hc
      simp only [List.mem_singleton] at hc
      subst hc
      rw [digit_toNat h]; omega
    · rw [dif_neg h]
      intro c hc
      rcases List.mem_append.1 hc with hc | hc
      · exact ih (u / 10) (by omega) c hc
      · simp only [List.mem_singleton] at hc
        subst hc
        rw [digit_toNat (by omega)]; omega
theorem dec_inj {u v : Nat} (h : decDigits u = decDigits v) : u = v := by rw [← val_dec u, h, val_dec v]
theorem dec_pos (u : Nat) : 1 ≤ (decDigits u).length := by rw [decDigits_length]; exact nDigits_pos u
theorem cut_colon : ∀ {a b x y : List UInt8}, (∀ c ∈ a, c ≠ 58) → (∀ c ∈ b, c ≠ 58) → a ++ 58 :: x = b ++ 58 :: y → a = b ∧ x = y
  | [], [], x, y, _, _, h => by simpa using h
  | [], c :: b, x, y, _, hb, h => by
    simp only [List.nil_append, List.cons_append, List.cons.injEq] at h
    exact absurd h.1.symm (hb c (by simp))
  | c :: a, [], x, y, ha, _, h => by
    simp only [List.nil_append, List.cons_append, List.cons.injEq] at h
    exact absurd h.1 (ha c (by simp))
  | c :: a, d :: b, x, y, ha, hb, h => by
    simp only [List.cons_append, List.cons.injEq] at h
    obtain ⟨h1, h2⟩ := h
    obtain ⟨h3, h4⟩ := cut_colon (fun c hc => ha c (by simp [hc])) (fun c hc => hb c (by simp [hc])) h2
    exact ⟨by rw [h1, h3], h4⟩
theorem dec_no (u : Nat) : ∀ c ∈ decDigits u, c ≠ 58 := by
  intro c hc h
  have := dec_digit u c hc
  subst h
  revert this; decide

/-! Joined texts. -/
def piece (s : List UInt8) : List UInt8 := decDigits s.length ++ 58 :: s
def joined (l : List (List UInt8)) : List UInt8 := (l.map piece).flatten
theorem joined_nil : joined [] = [] := rfl
theorem joined_cons (s : List UInt8) (l : List (List UInt8)) : joined (s :: l) = piece s ++ joined l := rfl
theorem joined_snoc (l : List (List UInt8)) (s : List UInt8) : joined (l ++ [s]) = joined l ++ piece s := by simp [joined]
theorem piece_cut {s t x y : List UInt8} (h : piece s ++ x = piece t ++ y) : s = t ∧ x = y := by
  unfold piece at h
  rw [List.append_assoc, List.append_assoc, List.cons_append, List.cons_append] at h
  obtain ⟨h1, h2⟩ := cut_colon (dec_no _) (dec_no _) h
  have h3 := dec_inj h1
  exact List.append_inj h2 h3
theorem joined_inj : ∀ {l m : List (List UInt8)}, joined l = joined m → l = m
  | [], [], _ => rfl
  | [], t :: m, h => by
    have := congrArg List.length h
    simp [joined_nil, joined_cons, piece] at this
  | s :: l, [], h => by
    have := congrArg List.length h
    simp [joined_nil, joined_cons, piece] at this
  | s :: l, t :: m, h => by
    rw [joined_cons, joined_cons] at h
    obtain ⟨h1, h2⟩ := piece_cut h
    rw [h1, joined_inj h2]
theorem piece_len (s : List UInt8) : (piece s).length = nDigits s.length + 1 + s.length := by
  simp [piece, decDigits_length]; omega
theorem nDigits_le {u k : Nat} (hk : 1 ≤ k) (h : u < 10 ^ k) : nDigits u ≤ k := by
  induction k generalizing u with
  | zero => omega
  | succ k ih =>
    by_cases h1 : u < 10
    · rw [nDigits_small h1]; omega
    · rw [nDigits_big h1]
      have hk1 : 1 ≤ k := by
        rcases Nat.eq_zero_or_pos k with rfl | h; · simp at h; omega
        · exact h
      have := ih (u := u / 10) hk1 (by rw [Nat.pow_succ] at h; omega)
      omega
theorem joined_len {B : Nat} (hB : B < 10 ^ 20) : ∀ {l : List (List UInt8)}, (∀ s ∈ l, s.length ≤ B) → (joined l).length ≤ l.length * (B + 21)
  | [], _ => by simp [joined]
  | s :: l, h => by
    have ih := joined_len hB (l := l) (fun s hs => h s (by simp [hs]))
    have h1 := h s (by simp)
    have h2 : nDigits s.length ≤ 20 := nDigits_le (by omega) (by omega)
    rw [joined_cons, List.length_append, piece_len, List.length_cons, Nat.add_mul]
    omega
end Go.Dig
