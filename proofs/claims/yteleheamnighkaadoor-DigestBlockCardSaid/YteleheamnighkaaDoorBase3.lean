/-
What the reference's numerals and its test of digests compute.
-/
import Derived.Test.YteleheamnighkaaDoorBase2
import Derived.Test.YteleheamnighkaaDoorBase1
set_option linter.unusedVariables false
set_option linter.unusedSimpArgs false
namespace Go.Proofs.YteleheamnighkaaDoor
open Go.RowKit Go.Proofs.YteleheamnighkaaDoorW.PrintWords
namespace BaseFacts
def decB : ByteArray := ⟨#[48, 49, 50, 51, 52, 53, 54, 55, 56, 57]⟩
theorem decB_at : ∀ t : Fin 10, decB.extract t.val (t.val + 1) = ofT [UInt8.ofNat (48 + t.val)] := by decide +kernel
theorem decB_cut (t : Nat) (h : t < 10) : decB.extract t (t + 1) = ofT [UInt8.ofNat (48 + t)] := decB_at ⟨t, h⟩
/-- The digits of a number, none of 0. -/
def decs (u : Nat) : List UInt8 := if u = 0 then [] else Lib.decDigits u
theorem decs_step (u : Nat) (h : 0 < u) : decs u = decs (u / 10) ++ [UInt8.ofNat (48 + u % 10)] := by
  unfold decs
  rw [if_neg (by omega), Lib.decDigits]
  by_cases h10 : u < 10
  · rw [dif_pos h10, if_pos (by omega), Nat.mod_eq_of_lt h10]; rfl
  · rw [dif_neg h10, if_neg (by omega)]
theorem dec_step (u : Nat) : Lib.decDigits u = decs (u / 10) ++ [UInt8.ofNat (48 + u % 10)] := by
  rw [Lib.decDigits]
  unfold decs
  by_cases h10 : u < 10
  · rw [dif_pos h10, if_pos (by omega), Nat.mod_eq_of_lt h10]; rfl
  · rw [dif_neg h10, if_neg (by omega)]
theorem digits_l0 : ∀ (b u : Nat) (t : List UInt8) (k : Nat), u < 10 ^ b → u < 18446744073709551616 → t.length + b ≤ 100 → b < k →
    PBase.planisphereref01_digits.l0 k u (ofT t) = some (ofT (decs u ++ t)) := by
  intro b
  induction b with
  | zero =>
    intro u t k hu h64 ht hk
    obtain ⟨k, rfl⟩ : ∃ n, k = n + 1 := ⟨k - 1, by omega⟩
    obtain rfl : u = 0 := by simpa using hu
    simp only [PBase.planisphereref01_digits.l0]
    rw [if_neg (by omega)]; rfl
  | succ b ih =>
    intro u t k hu h64 ht hk
    obtain ⟨k, rfl⟩ : ∃ n, k = n + 1 := ⟨k - 1, by omega⟩
    simp only [PBase.planisphereref01_digits.l0]
    by_cases h0 : u = 0
    · subst h0
      rw [if_neg (by omega)]; rfl
    · have ihh := ih (u / 10) (UInt8.ofNat (48 + u % 10) :: t) k (by rw [Nat.pow_succ] at hu; omega) (by omega) (by rw [List.length_cons]; omega) (by omega)
      have hm : u % 10 < 10 := Nat.mod_lt _ (by omega)
      have hst := decs_step u (by omega)
      have e6 : (⟨#[48, 49, 50, 51, 52, 53, 54, 55, 56, 57]⟩ : ByteArray).extract (u % 10) (u % 10 + 1) = ofT [UInt8.ofNat (48 + u % 10)] := decB_cut _ hm
      have hsz : (ofT [UInt8.ofNat (48 + u % 10)]).size + (ofT t).size ≤ 9223372036854775807 := by
        rw [size_ofT, size_ofT, List.length_singleton]; omega
      have e1 : Int.tmod (u : Int) 10 = ((u % 10 : Nat) : Int) := by rw [show (10 : Int) = ((10 : Nat) : Int) from rfl, tmod_nat]
      have e2 : Int.tdiv (u : Int) 10 = ((u / 10 : Nat) : Int) := by rw [show (10 : Int) = ((10 : Nat) : Int) from rfl, tdiv_nat]
      have e3 : IntKind.u64.wrap (((u % 10 : Nat) : Int) + 1) = ((u % 10 + 1 : Nat) : Int) := by rw [wu _ (by omega) (by omega)]; omega
      have e4 : IntKind.u64.wrap ((u / 10 : Nat) : Int) = ((u / 10 : Nat) : Int) := wu _ (by omega) (by omega)
      rw [e1, e2, e3, e4]
      clear e1 e2 e3 e4
      rw [if_pos (by omega), if_pos (by omega), if_pos (by omega), if_pos (by omega)]
      simp only [Int.toNat_natCast]
      rw [e6, if_pos hsz, ofT_append, hst, List.append_assoc]
      exact ihh
theorem decimal_f (u : Nat) (hu : u ≤ 9223372036854775807) : PBase.planisphereref01_Decimal.f 30 u = some (ofT (Lib.decDigits u)) := by
  have hm : u % 10 < 10 := Nat.mod_lt _ (by omega)
  have e6 : (⟨#[48, 49, 50, 51, 52, 53, 54, 55, 56, 57]⟩ : ByteArray).extract (u % 10) (u % 10 + 1) = ofT [UInt8.ofNat (48 + u % 10)] := decB_cut _ hm
  have hl := digits_l0 20 (u / 10) [UInt8.ofNat (48 + u % 10)] 30 (by omega) (by omega) (by simp) (by omega)
  have hd : PBase.planisphereref01_digits.f 30 u = some (ofT (Lib.decDigits u)) := by
    have e1 : Int.tmod (u : Int) 10 = ((u % 10 : Nat) : Int) := by rw [show (10 : Int) = ((10 : Nat) : Int) from rfl, tmod_nat]
    have e2 : Int.tdiv (u : Int) 10 = ((u / 10 : Nat) : Int) := by rw [show (10 : Int) = ((10 : Nat) : Int) from rfl, tdiv_nat]
    have e3 : IntKind.u64.wrap (((u % 10 : Nat) : Int) + 1) = ((u % 10 + 1 : Nat) : Int) := by rw [wu _ (by omega) (by omega)]; omega
    have e4 : IntKind.u64.wrap ((u / 10 : Nat) : Int) = ((u / 10 : Nat) : Int) := wu _ (by omega) (by omega)
    unfold PBase.planisphereref01_digits.f
    rw [e1, e2, e3, e4]
    clear e1 e2 e3 e4
    rw [if_pos (by omega), if_pos (by omega), if_pos (by omega)]
    simp only [Int.toNat_natCast]
    rw [e6, dec_step]
    exact hl
  have e0 : IntKind.u64.wrap (u : Int) = (u : Int) := wu _ (by omega) (by omega)
  unfold PBase.planisphereref01_Decimal.f
  rw [e0]
  clear e0
  rw [if_neg (by omega), hd]; rfl

/-! Is -/
theorem digit_f (c : Nat) (hc : c < 256) : ∃ v : Int, (∀ k, PBase.planisphereref01_Digit.f (k + 1) c = some v) ∧ (v < 0 ↔ ¬ (48 ≤ c ∧ c ≤ 57 ∨ 97 ≤ c ∧ c ≤ 102)) := by
  by_cases h1 : 48 ≤ c ∧ c ≤ 57
  · refine ⟨((c : Int) - 48) % 256, fun k => ?_, by omega⟩
    simp only [PBase.planisphereref01_Digit.f, PBase.planisphereref01_Digit.j0]
    rw [if_pos (by omega), decide_eq_true (by omega), if_pos rfl]
  · by_cases h2 : 97 ≤ c ∧ c ≤ 102
    · refine ⟨((c : Int) - 97) % 256 + 10, fun k => ?_, by omega⟩
      simp only [PBase.planisphereref01_Digit.f, PBase.planisphereref01_Digit.j0]
      rw [if_pos (by omega), decide_eq_false (by omega), if_neg (by simp), if_pos (by omega), if_pos (by omega)]
    · refine ⟨-1, fun k => ?_, by omega⟩
      simp only [PBase.planisphereref01_Digit.f, PBase.planisphereref01_Digit.j0]
      by_cases h3 : 48 ≤ c
      · rw [if_pos (by omega), decide_eq_false (by omega), if_neg (by simp)]
        by_cases h4 : 97 ≤ c
        · rw [if_pos (by omega), if_neg (by omega)]
        · rw [if_neg (by omega)]
      · rw [if_neg (by omega), if_neg (by simp), if_neg (by omega)]
theorem isHex_iff (c : UInt8) : Dig.isHex c = true ↔ (48 ≤ c.toNat ∧ c.toNat ≤ 57 ∨ 97 ≤ c.toNat ∧ c.toNat ≤ 102) := by
  have : ∀ c : Fin 256, Dig.isHex (UInt8.ofNat c.val) = true ↔ (48 ≤ c.val ∧ c.val ≤ 57 ∨ 97 ≤ c.val ∧ c.val ≤ 102) := by decide +kernel
  have h := this ⟨c.toNat, c.toNat_lt⟩
  simpa using h
theorem is_l0 (s : ByteArray) (hs : s.size ≤ 140737488355328) : ∀ (d i k : Nat), i + d = min s.size 16 → 3 * d + 4 < k → ((tx s).take i).all Dig.isHex = true →
    PBase.planisphereref01_Is.l0 k s i = some (Dig.isD (tx s)) := by
  intro d
  have fin : ∀ (i k : Nat), i = min s.size 16 → 3 < k → ((tx s).take i).all Dig.isHex = true → PBase.planisphereref01_Is.l0 k s i = some (Dig.isD (tx s)) := by
    intro i k hi hk ht
    obtain ⟨k, rfl⟩ : ∃ n, k = n + 2 := ⟨k - 2, by omega⟩
    have hj : PBase.planisphereref01_Is.j1 (k + 1) s i false = some (Dig.isD (tx s)) := by
      simp only [PBase.planisphereref01_Is.j1]
      rw [if_neg (by simp)]
      unfold Dig.isD
      congr 1
      by_cases h16 : s.size = 16
      · rw [List.take_of_length_le (by rw [tx_len]; omega)] at ht
        rw [ht, tx_len, h16]; rfl
      · rw [tx_len, show (s.size == 16) = false by simpa using h16, Bool.false_and]
        simp; omega
    simp only [PBase.planisphereref01_Is.l0]
    by_cases hlt : (i : Int) < s.size
    · rw [if_pos hlt, decide_eq_false (by omega)]; exact hj
    · rw [if_neg hlt]; exact hj
  induction d with
  | zero => intro i k hi hk ht; exact fin i k (by omega) (by omega) ht
  | succ d ih =>
    intro i k hi hk ht
    obtain ⟨k, rfl⟩ : ∃ n, k = n + 3 := ⟨k - 3, by omega⟩
    have hlt : i < s.size := by omega
    have hlt' : i < (tx s).length := by rw [tx_len]; exact hlt
    simp only [PBase.planisphereref01_Is.l0, PBase.planisphereref01_Is.j1]
    rw [if_pos (by omega), decide_eq_true (by omega), if_pos rfl, if_pos (by omega), if_pos (by omega), bt_tx s i hlt]
    have hg : (tx s).getD i 0 = (tx s)[i] := by rw [List.getD, List.getElem?_eq_getElem hlt']; rfl
    rw [hg]
    obtain ⟨v, hv, hneg⟩ := digit_f ((tx s)[i]).toNat (UInt8.toNat_lt _)
    rw [hv (k)]
    simp only [Option.bind_some]
    rw [← isHex_iff] at hneg
    by_cases hx : v < 0
    · rw [if_pos hx]
      have h1 := hneg.1 hx
      have : (tx s).all Dig.isHex = false := all_no _ _ i hlt' (by simpa using h1)
      unfold Dig.isD; rw [this, Bool.and_false]
    · rw [if_neg hx, w64 i (by omega)]
      have hc : Dig.isHex (tx s)[i] = true := by
        cases hc : Dig.isHex (tx s)[i] with
        | true => rfl
        | false => exact absurd (hneg.2 (by rw [hc]; simp)) hx
      have := ih (i + 1) (k + 1) (by omega) (by omega) (all_take_succ _ (tx s) i hlt' ht hc)
      simp only [PBase.planisphereref01_Is.l0] at this
      exact this
theorem is_f (s : ByteArray) (hs : s.size ≤ 140737488355328) : PBase.planisphereref01_Is.f 100 s = some (Dig.isD (tx s)) :=
  is_l0 s hs (min s.size 16) 0 100 (by omega) (by omega) rfl
end BaseFacts
end Go.Proofs.YteleheamnighkaaDoor
