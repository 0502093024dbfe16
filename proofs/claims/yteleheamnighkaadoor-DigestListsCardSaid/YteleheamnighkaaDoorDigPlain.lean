import Derived.Lib.ItoaNum
set_option linter.unusedVariables false
set_option linter.unusedSimpArgs false
namespace Go.Dig
/-! The mixing of a number. -/
def mix (x : UInt64) : UInt64 :=
  let a := x * 2862933555777941757
  let b := a ^^^ (a >>> 32)
  let c := b * 3935559000370003845
  c ^^^ (c >>> 29)

theorem shr_inj32 {x y : UInt64} (h : x ^^^ (x >>> 32) = y ^^^ (y >>> 32)) : x = y := by
  have inv : ∀ z : UInt64, (z ^^^ (z >>> 32)) ^^^ ((z ^^^ (z >>> 32)) >>> 32) = z := by
    intro z
    apply UInt64.toBitVec_inj.1
    simp only [UInt64.toBitVec_xor, UInt64.toBitVec_shiftRight]
    ext i hi
    simp [BitVec.getElem_xor, ← BitVec.getLsbD_eq_getElem]
    rw [BitVec.getLsbD_of_ge _ (32 + (32 + i)) (by omega)]
    cases z.toBitVec.getLsbD i <;> cases z.toBitVec.getLsbD (32 + i) <;> rfl
  rw [← inv x, h, inv y]
theorem shr_inj29 {x y : UInt64} (h : x ^^^ (x >>> 29) = y ^^^ (y >>> 29)) : x = y := by
  have inv : ∀ z : UInt64, let w := z ^^^ (z >>> 29); w ^^^ (w >>> 29) ^^^ (w >>> 58) = z := by
    intro z
    apply UInt64.toBitVec_inj.1
    simp only [UInt64.toBitVec_xor, UInt64.toBitVec_shiftRight]
    ext i hi
    simp [BitVec.getElem_xor, ← BitVec.getLsbD_eq_getElem]
    rw [BitVec.getLsbD_of_ge _ (29 + (58 + i)) (by omega), show 29 + (29 + i) = 58 + i by omega]
    cases z.toBitVec.getLsbD i <;> cases z.toBitVec.getLsbD (29 + i) <;> cases z.toBitVec.getLsbD (58 + i) <;> rfl
  rw [← inv x, h, inv y]
theorem mul_inj (c d : UInt64) (hcd : c * d = 1) {x y : UInt64} (h : x * c = y * c) : x = y := by
  have h2 : x * c * d = y * c * d := by rw [h]
  rwa [UInt64.mul_assoc, UInt64.mul_assoc, hcd, UInt64.mul_one, UInt64.mul_one] at h2
theorem mix_inj {x y : UInt64} (h : mix x = mix y) : x = y :=
  mul_inj 2862933555777941757 16133697096952638549 (by decide) (shr_inj32 (mul_inj 3935559000370003845 13700500150304694605 (by decide) (shr_inj29 h)))
theorem xor_inj {x y z : UInt64} (h : x ^^^ y = x ^^^ z) : y = z := by
  have h2 : x ^^^ (x ^^^ y) = x ^^^ (x ^^^ z) := by rw [h]
  rwa [← UInt64.xor_assoc, ← UInt64.xor_assoc, UInt64.xor_self, UInt64.zero_xor, UInt64.zero_xor] at h2
theorem xor_inj' {x y z : UInt64} (h : y ^^^ x = z ^^^ x) : y = z := xor_inj (x := x) (by rw [UInt64.xor_comm, h, UInt64.xor_comm])

/-! Blocks. -/
/-- The first i bytes, as a number, with zeros behind the text's end. -/
def pre (l : List UInt8) : Nat → Nat
  | 0 => 0
  | i + 1 => pre l i * 256 + (l.getD i 0).toNat
theorem pre_lt (l : List UInt8) (i : Nat) : pre l i < 256 ^ i := by
  induction i with
  | zero => simp [pre]
  | succ i ih =>
    have := (l.getD i 0).toNat_lt
    rw [pre, Nat.pow_succ]; omega
theorem pre_inj {l m : List UInt8} : ∀ {i : Nat}, pre l i = pre m i → ∀ j, j < i → l.getD j 0 = m.getD j 0
  | 0, _, j, hj => by omega
  | i + 1, h, j, hj => by
    have h1 := (l.getD i 0).toNat_lt
    have h2 := (m.getD i 0).toNat_lt
    rw [pre, pre] at h
    by_cases e : j = i
    · subst e
      exact UInt8.toNat_inj.1 (by omega)
    · exact pre_inj (i := i) (by omega) j (by omega)
theorem pre_congr {l m : List UInt8} : ∀ {i : Nat}, (∀ j, j < i → l.getD j 0 = m.getD j 0) → pre l i = pre m i
  | 0, _ => rfl
  | i + 1, h => by rw [pre, pre, pre_congr (i := i) (fun j hj => h j (by omega)), h i (by omega)]
def block (l : List UInt8) : UInt64 := UInt64.ofNat (pre l 8)
theorem block_toNat (l : List UInt8) : (block l).toNat = pre l 8 := by
  have := pre_lt l 8
  unfold block; rw [UInt64.toNat_ofNat']; omega
theorem block_inj {l m : List UInt8} (h : block l = block m) : pre l 8 = pre m 8 := by
  rw [← block_toNat, ← block_toNat, h]
/-- The state behind a text. -/
def steps (s : UInt64) (l : List UInt8) : UInt64 :=
  if h : l.length < 8 then mix (s ^^^ block l) else steps (mix (s ^^^ block l)) (l.drop 8)
termination_by l.length
decreasing_by simp; omega
theorem steps_short {s : UInt64} {l : List UInt8} (h : l.length < 8) : steps s l = mix (s ^^^ block l) := by rw [steps, dif_pos h]
theorem steps_long {s : UInt64} {l : List UInt8} (h : 8 ≤ l.length) : steps s l = steps (mix (s ^^^ block l)) (l.drop 8) := by rw [steps, dif_neg (by omega)]
theorem steps_inj : ∀ (n : Nat) {l : List UInt8} {s t : UInt64}, l.length ≤ n → steps s l = steps t l → s = t
  | n, l, s, t, hn, h => by
    by_cases hl : l.length < 8
    · rw [steps_short (s := s) hl, steps_short (s := t) hl] at h
      exact xor_inj' (mix_inj h)
    · rw [steps_long (s := s) (by omega), steps_long (s := t) (by omega)] at h
      match n, hn with
      | 0, hn => omega
      | n + 1, hn => exact xor_inj' (mix_inj (steps_inj n (by rw [List.length_drop]; omega) h))
def start (n : Nat) : UInt64 := 1181783497276652981 ^^^ UInt64.ofNat n

/-! Digits. -/
def hexd (n : Nat) : UInt8 := if n < 10 then UInt8.ofNat (48 + n) else UInt8.ofNat (87 + n)
theorem hexd_inj {a b : Nat} (ha : a < 16) (hb : b < 16) (h : hexd a = hexd b) : a = b := by
  have : ∀ a b : Fin 16, hexd a = hexd b → a = b := by decide +kernel
  simpa using this ⟨a, ha⟩ ⟨b, hb⟩ h
def hex (n : Nat) : List UInt8 := (List.range 16).map fun i => hexd (n / 2 ^ (60 - 4 * i) % 16)
theorem hex_len (n : Nat) : (hex n).length = 16 := by simp [hex]
theorem digits_inj (n m : Nat) : ∀ k : Nat, (∀ i, i < k → n / 16 ^ i % 16 = m / 16 ^ i % 16) → n % 16 ^ k = m % 16 ^ k
  | 0, _ => by simp [Nat.mod_one]
  | k + 1, h => by
    have ih := digits_inj n m k (fun i hi => h i (by omega))
    have h2 := h k (by omega)
    rw [Nat.pow_succ, Nat.mod_mul, Nat.mod_mul, ih, h2]
theorem hex_inj {n m : Nat} (hn : n < 2 ^ 64) (hm : m < 2 ^ 64) (h : hex n = hex m) : n = m := by
  have h2 : ∀ i, i < 16 → n / 16 ^ i % 16 = m / 16 ^ i % 16 := by
    intro i hi
    have h3 : ∀ k : Nat, (hex k)[15 - i]? = some (hexd (k / 16 ^ i % 16)) := by
      intro k
      have e : (2 : Nat) ^ (60 - 4 * (15 - i)) = 16 ^ i := by
        rw [show 60 - 4 * (15 - i) = 4 * i by omega, Nat.pow_mul]
      simp only [hex, List.getElem?_map]
      rw [List.getElem?_range (by omega)]
      simp only [Option.map_some, e]
    have h4 : some (hexd (n / 16 ^ i % 16)) = some (hexd (m / 16 ^ i % 16)) := by rw [← h3, ← h3, h]
    exact hexd_inj (Nat.mod_lt _ (by decide)) (Nat.mod_lt _ (by decide)) (Option.some.inj h4)
  have h5 := digits_inj n m 16 h2
  rwa [Nat.mod_eq_of_lt (show n < 16 ^ 16 from hn), Nat.mod_eq_of_lt (show m < 16 ^ 16 from hm)] at h5
/-- The digest of a text. -/
def sum (l : List UInt8) : List UInt8 := hex (steps (start l.length) l).toNat
theorem sum_len (l : List UInt8) : (sum l).length = 16 := hex_len _
theorem sum_eq {l m : List UInt8} : sum l = sum m ↔ steps (start l.length) l = steps (start m.length) m := by
  constructor
  · intro h
    exact UInt64.toNat_inj.1 (hex_inj (UInt64.toNat_lt _) (UInt64.toNat_lt _) h)
  · intro h; unfold sum; rw [h]

/-! Short texts. -/
theorem getD_ext {l m : List UInt8} (hl : l.length = m.length) (h : ∀ j, j < l.length → l.getD j 0 = m.getD j 0) : l = m := by
  apply List.ext_getElem hl
  intro i h1 h2
  have := h i h1
  simpa [List.getD, h1, h2] using this
theorem sum_short {l m : List UInt8} (hl : l.length ≤ 7) (hm : m.length ≤ 7) (h : sum l = sum m) : l = m := by
  rw [sum_eq, steps_short (l := l) (by omega), steps_short (l := m) (by omega)] at h
  have h2 := mix_inj h
  unfold start at h2
  rw [UInt64.xor_assoc, UInt64.xor_assoc] at h2
  have h3 := xor_inj h2
  have e : ∀ k : List UInt8, k.length ≤ 7 → pre k 8 = pre k 7 * 256 := by
    intro k hk
    rw [pre]
    have : k.getD 7 0 = 0 := by simp [List.getD, List.getElem?_eq_none hk]
    rw [this, UInt8.toNat_zero, Nat.add_zero]
  have e2 : ∀ k : List UInt8, k.length ≤ 7 → (UInt64.ofNat k.length ^^^ block k).toNat = k.length ^^^ (pre k 7 * 256) := by
    intro k hk
    rw [UInt64.toNat_xor, block_toNat, e k hk, UInt64.toNat_ofNat', Nat.mod_eq_of_lt (by omega)]
  have h4 : l.length ^^^ (pre l 7 * 256) = m.length ^^^ (pre m 7 * 256) := by rw [← e2 l hl, ← e2 m hm, h3]
  have h5 : l.length = m.length := by
    have := congrArg (· % 2 ^ 8) h4
    simp only [Nat.xor_mod_two_pow] at this
    rw [show pre l 7 * 256 % 2 ^ 8 = 0 by omega, show pre m 7 * 256 % 2 ^ 8 = 0 by omega, Nat.xor_zero, Nat.xor_zero, Nat.mod_eq_of_lt (by omega), Nat.mod_eq_of_lt (by omega)] at this
    exact this
  have h6 : pre l 8 = pre m 8 := by
    rw [h5] at h4
    have h7 := congrArg (m.length ^^^ ·) h4
    simp only [← Nat.xor_assoc, Nat.xor_self, Nat.zero_xor] at h7
    rw [e l hl, e m hm, h7]
  exact getD_ext h5 fun j hj => pre_inj h6 j (by omega)

/-! One block. -/
theorem getD_left {a r : List UInt8} {j : Nat} (h : j < a.length) : (a ++ r).getD j 0 = a.getD j 0 := by
  simp [List.getD, List.getElem?_append_left h]
theorem steps_first {a b r : List UInt8} (hab : a.length = b.length) (ha : a.length ≤ 8) {s : UInt64} (h : steps s (a ++ r) = steps s (b ++ r)) : a = b := by
  have fin : block (a ++ r) = block (b ++ r) → a = b := by
    intro hb
    have := pre_inj (block_inj hb)
    exact getD_ext hab fun j hj => by
      have h1 := this j (by omega)
      rwa [getD_left hj, getD_left (by omega)] at h1
  by_cases hl : (a ++ r).length < 8
  · have hl2 : (b ++ r).length < 8 := by simp at hl ⊢; omega
    rw [steps_short hl, steps_short hl2] at h
    exact fin (xor_inj (mix_inj h))
  · have hl2 : 8 ≤ (b ++ r).length := by simp at hl ⊢; omega
    rw [steps_long (l := a ++ r) (by omega), steps_long (l := b ++ r) hl2] at h
    have hd : (a ++ r).drop 8 = (b ++ r).drop 8 := by
      rw [List.drop_append, List.drop_append, List.drop_eq_nil_of_le ha, List.drop_eq_nil_of_le (as := b) (by omega), hab]
    rw [hd] at h
    exact fin (xor_inj (mix_inj (steps_inj _ (Nat.le_refl _) h)))
theorem steps_at {a b r : List UInt8} (hab : a.length = b.length) (ha : a.length ≤ 8) : ∀ (k : Nat) {p : List UInt8} {s : UInt64}, p.length = 8 * k → steps s (p ++ a ++ r) = steps s (p ++ b ++ r) → a = b
  | 0, p, s, hp, h => by
    have : p = [] := List.length_eq_zero_iff.1 (by omega)
    subst this
    exact steps_first hab ha h
  | k + 1, p, s, hp, h => by
    rw [steps_long (l := p ++ a ++ r) (by simp; omega), steps_long (l := p ++ b ++ r) (by simp; omega)] at h
    have e : ∀ c : List UInt8, (p ++ c ++ r).drop 8 = p.drop 8 ++ c ++ r := by
      intro c
      rw [List.append_assoc, List.append_assoc, List.drop_append_of_le_length (by omega)]
    have e2 : block (p ++ a ++ r) = block (p ++ b ++ r) := by
      unfold block
      rw [pre_congr]
      intro j hj
      rw [List.append_assoc, List.append_assoc, getD_left (by omega), getD_left (by omega)]
    rw [e, e, e2] at h
    exact steps_at hab ha k (by simp; omega) h
theorem sum_block {p a b r : List UInt8} (k : Nat) (hp : p.length = 8 * k) (hab : a.length = b.length) (ha : a.length ≤ 8) (h : sum (p ++ a ++ r) = sum (p ++ b ++ r)) : a = b := by
  rw [sum_eq] at h
  have hl : (p ++ a ++ r).length = (p ++ b ++ r).length := by simp; omega
  rw [hl] at h
  exact steps_at hab ha k hp h
end Go.Dig
