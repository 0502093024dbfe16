/-
What the reference's digest computes.
-/
import Derived.Test.YteleheamnighkaaDoorPBasex1
import Derived.Test.YteleheamnighkaaDoorGiven
set_option linter.unusedVariables false
set_option linter.unusedSimpArgs false
namespace Go.Proofs.YteleheamnighkaaDoor
open Go.RowKit Go.Proofs.YteleheamnighkaaDoorW.PrintWords
namespace BaseFacts
theorem wu (z : Int) (h0 : 0 ≤ z) (h1 : z < 18446744073709551616) : IntKind.u64.wrap z = z := by rw [wrap_u64]; omega
theorem tmod_nat (n d : Nat) : Int.tmod (n : Int) (d : Int) = ((n % d : Nat) : Int) := by rw [Int.tmod_eq_emod_of_nonneg (by omega)]; rfl
theorem tdiv_nat (n d : Nat) : Int.tdiv (n : Int) (d : Int) = ((n / d : Nat) : Int) := by rw [Int.tdiv_eq_ediv_of_nonneg (by omega)]; rfl
def hexB : ByteArray := ⟨#[48, 49, 50, 51, 52, 53, 54, 55, 56, 57, 97, 98, 99, 100, 101, 102]⟩
theorem hexB_at : ∀ t : Fin 16, hexB.extract t.val (t.val + 1) = ofT [Dig.hexd t.val] := by decide +kernel
theorem hexB_cut (t : Nat) (h : t < 16) : hexB.extract t (t + 1) = ofT [Dig.hexd t] := hexB_at ⟨t, h⟩
theorem ofT_append (a b : List UInt8) : ofT a ++ ofT b = ofT (a ++ b) := tx_inj (by show (ofT a ++ ofT b).data.toList = _; rw [ByteArray.data_append, Array.toList_append]; rfl)
theorem hex_drop (n i : Nat) (hi : i < 16) : (Dig.hex n).drop (16 - (i + 1)) = Dig.hexd (n / 16 ^ i % 16) :: (Dig.hex n).drop (16 - i) := by
  have h1 : 16 - (i + 1) < (Dig.hex n).length := by rw [Dig.hex_len]; omega
  rw [List.drop_eq_getElem_cons h1, show 16 - (i + 1) + 1 = 16 - i by omega]
  congr 1
  simp only [Dig.hex, List.getElem_map, List.getElem_range]
  have : (2 : Nat) ^ (60 - 4 * (16 - (i + 1))) = 16 ^ i := by
    rw [show 60 - 4 * (16 - (i + 1)) = 4 * i by omega, Nat.pow_mul]
  rw [this]
theorem sum_l2 (n : Nat) (hn : n < 18446744073709551616) : ∀ (d i k : Nat), i + d = 16 → d < k →
    PBase.planisphereref01_Sum.l2 k ((n / 16 ^ i : Nat) : Int) (ofT ((Dig.hex n).drop (16 - i))) i = some (ofT (Dig.hex n)) := by
  intro d
  induction d with
  | zero =>
    intro i k hi hk
    obtain ⟨k, rfl⟩ : ∃ n, k = n + 1 := ⟨k - 1, by omega⟩
    obtain rfl : i = 16 := by omega
    simp only [PBase.planisphereref01_Sum.l2]
    rw [if_neg (by omega)]; rfl
  | succ d ih =>
    intro i k hi hk
    obtain ⟨k, rfl⟩ : ∃ n, k = n + 1 := ⟨k - 1, by omega⟩
    have hlt : i < 16 := by omega
    have hle : n / 16 ^ i ≤ n := Nat.div_le_self _ _
    have hd : n / 16 ^ (i + 1) = n / 16 ^ i / 16 := by rw [Nat.pow_succ, Nat.div_div_eq_div_mul]
    have hdr := hex_drop n i hlt
    have ihh := ih (i + 1) k (by omega) (by omega)
    rw [hdr, hd] at ihh
    generalize n / 16 ^ i = z at *
    have e1 : Int.tmod (z : Int) 16 = ((z % 16 : Nat) : Int) := by rw [show (16 : Int) = ((16 : Nat) : Int) from rfl, tmod_nat]
    have e2 : Int.tdiv (z : Int) 16 = ((z / 16 : Nat) : Int) := by rw [show (16 : Int) = ((16 : Nat) : Int) from rfl, tdiv_nat]
    have hm : z % 16 < 16 := by omega
    have e3 : IntKind.u64.wrap (((z % 16 : Nat) : Int) + 1) = ((z % 16 + 1 : Nat) : Int) := by rw [wu _ (by omega) (by omega)]; omega
    have e4 : IntKind.u64.wrap ((z / 16 : Nat) : Int) = ((z / 16 : Nat) : Int) := wu _ (by omega) (by omega)
    have e5 : wrap64 ((i : Int) + 1) = ((i + 1 : Nat) : Int) := by unfold wrap64; omega
    have e6 : (⟨#[48, 49, 50, 51, 52, 53, 54, 55, 56, 57, 97, 98, 99, 100, 101, 102]⟩ : ByteArray).extract (z % 16) (z % 16 + 1) = ofT [Dig.hexd (z % 16)] := hexB_cut _ hm
    have hsz : (ofT [Dig.hexd (z % 16)]).size + (ofT ((Dig.hex n).drop (16 - i))).size ≤ 9223372036854775807 := by
      rw [size_ofT, size_ofT, List.length_drop, Dig.hex_len, List.length_singleton]; omega
    simp only [PBase.planisphereref01_Sum.l2]
    rw [e1, e2, e3, e4, e5]
    clear e1 e2 e3 e4 e5
    rw [if_pos (by omega), if_pos (by omega), if_pos (by omega), if_pos (by omega)]
    simp only [Int.toNat_natCast]
    rw [e6, if_pos hsz, ofT_append]
    exact ihh
theorem mulw1 (x : UInt64) : IntKind.u64.wrap ((x.toNat : Int) * 2862933555777941757) = ((x * (2862933555777941757 : UInt64)).toNat : Int) := by
  rw [wrap_u64, UInt64.toNat_mul, Int.natCast_emod, Int.natCast_mul]; rfl
theorem mulw2 (x : UInt64) : IntKind.u64.wrap ((x.toNat : Int) * 3935559000370003845) = ((x * (3935559000370003845 : UInt64)).toNat : Int) := by
  rw [wrap_u64, UInt64.toNat_mul, Int.natCast_emod, Int.natCast_mul]; rfl
theorem mix_f (y : UInt64) (z : Int) (h : z = y.toNat) : PBase.planisphereref01_mix.f z = some ((Dig.mix y).toNat : Int) := by
  subst h
  unfold PBase.planisphereref01_mix.f
  rw [mulw1, xs32, mulw2, xs29]; rfl
theorem bt_tx (s : ByteArray) (i : Nat) (h : i < s.size) : bt s (i : Int) = (((tx s).getD i 0).toNat : Int) := by
  have hi : i < s.data.size := h
  simp only [bt, Int.toNat_natCast]
  rw [dif_pos h]
  have : (tx s).getD i 0 = s.data[i] := by
    rw [List.getD, Array.getElem?_toList, Array.getElem?_eq_getElem hi]; rfl
  rw [this]; rfl
theorem pre_drop (l : List UInt8) (a j : Nat) : (l.drop a).getD j 0 = l.getD (a + j) 0 := by simp [List.getD]
theorem sum_l1 (s : ByteArray) (hs : s.size ≤ 140737488355328) (y : UInt64) (a : Nat) (ha : a ≤ s.size) (K : Nat) (R : Option ByteArray)
    (hR : ∀ k, K < k → PBase.planisphereref01_Sum.l0 k s ((Dig.mix (y ^^^ Dig.block ((tx s).drop a))).toNat : Int) ((a + 8 : Nat) : Int) = R) :
    ∀ (d j k : Nat), j + d = 8 → d + K + 1 < k → PBase.planisphereref01_Sum.l1 k s (y.toNat : Int) a ((Dig.pre ((tx s).drop a) j : Nat) : Int) ((a + j : Nat) : Int) = R := by
  intro d
  have e8 : wrap64 ((a : Int) + 8) = ((a + 8 : Nat) : Int) := by unfold wrap64; omega
  induction d with
  | zero =>
    intro j k hj hk
    obtain ⟨k, rfl⟩ : ∃ n, k = n + 1 := ⟨k - 1, by omega⟩
    obtain rfl : j = 8 := by omega
    simp only [PBase.planisphereref01_Sum.l1]
    rw [e8, if_neg (by omega), mix_f (y ^^^ Dig.block ((tx s).drop a)) _ (by rw [← Dig.block_toNat]; exact xor_u _ _)]
    exact hR k (by omega)
  | succ d ih =>
    intro j k hj hk
    obtain ⟨k, rfl⟩ : ∃ n, k = n + 1 := ⟨k - 1, by omega⟩
    have hp := Dig.pre_lt ((tx s).drop a) j
    have hp2 : 256 ^ j ≤ 256 ^ 7 := Nat.pow_le_pow_right (by decide) (by omega)
    have hsucc : Dig.pre ((tx s).drop a) (j + 1) = Dig.pre ((tx s).drop a) j * 256 + (((tx s).drop a).getD j 0).toNat := rfl
    have ihh := ih (j + 1) k (by omega) (by omega)
    rw [hsucc, pre_drop] at ihh
    have e1 : wrap64 (((a + j : Nat) : Int) + 1) = ((a + (j + 1) : Nat) : Int) := by unfold wrap64; omega
    simp only [PBase.planisphereref01_Sum.l1]
    rw [e8, if_pos (by omega), e1]
    generalize Dig.pre ((tx s).drop a) j = n at *
    have e2 : IntKind.u64.wrap ((n : Int) * 256) = ((n * 256 : Nat) : Int) := by rw [wu _ (by omega) (by omega)]; omega
    rw [e2]
    by_cases hlt : a + j < s.size
    · rw [if_pos (by omega), if_pos (by omega), bt_tx s (a + j) hlt]
      have hc := ((tx s).getD (a + j) 0).toNat_lt
      generalize ((tx s).getD (a + j) 0).toNat = c at *
      have e3 : IntKind.u64.wrap (((n * 256 : Nat) : Int) + IntKind.u64.wrap (c : Int)) = ((n * 256 + c : Nat) : Int) := by
        rw [wu (c : Int) (by omega) (by omega), wu _ (by omega) (by omega)]; omega
      rw [e3]; exact ihh
    · rw [if_neg (by omega)]
      have h0 : (tx s).getD (a + j) 0 = 0 := by simp [List.getD, List.getElem?_eq_none (show (tx s).length ≤ a + j by rw [tx_len]; omega)]
      rw [h0, UInt8.toNat_zero, Nat.add_zero] at ihh
      exact ihh
theorem sum_l0 (s : ByteArray) (hs : s.size ≤ 140737488355328) : ∀ (b a : Nat) (y : UInt64) (k : Nat), a ≤ s.size → s.size - a < 8 * (b + 1) → 11 * (b + 1) + 30 < k →
    PBase.planisphereref01_Sum.l0 k s (y.toNat : Int) a = some (ofT (Dig.hex (Dig.steps y ((tx s).drop a)).toNat)) := by
  intro b
  induction b with
  | zero =>
    intro a y k ha hb hk
    obtain ⟨k, rfl⟩ : ∃ n, k = n + 1 := ⟨k - 1, by omega⟩
    simp only [PBase.planisphereref01_Sum.l0]
    rw [if_pos (by omega)]
    rw [Dig.steps_short (by rw [List.length_drop, tx_len]; omega)]
    refine sum_l1 s hs y a ha 20 _ (fun k hk => ?_) 8 0 k (by omega) (by omega)
    obtain ⟨k, rfl⟩ : ∃ n, k = n + 1 := ⟨k - 1, by omega⟩
    simp only [PBase.planisphereref01_Sum.l0]
    rw [if_neg (by omega)]
    have := sum_l2 (Dig.mix (y ^^^ Dig.block ((tx s).drop a))).toNat (UInt64.toNat_lt _) 16 0 k (by omega) (by omega)
    have hd : ∀ x : Nat, (Dig.hex x).drop (16 - 0) = [] := fun x => List.drop_eq_nil_of_le (by rw [Dig.hex_len]; omega)
    rw [Nat.pow_zero, Nat.div_one, hd, show ((0 : Nat) : Int) = 0 from rfl] at this
    exact this
  | succ b ih =>
    intro a y k ha hb hk
    by_cases hshort : s.size - a < 8
    · exact (by
        have := ih a y k ha (by omega) (by omega)
        exact this)
    · obtain ⟨k, rfl⟩ : ∃ n, k = n + 1 := ⟨k - 1, by omega⟩
      simp only [PBase.planisphereref01_Sum.l0]
      rw [if_pos (by omega)]
      rw [Dig.steps_long (by rw [List.length_drop, tx_len]; omega), List.drop_drop]
      exact sum_l1 s hs y a ha (11 * (b + 1) + 30) _ (fun k hk => ih (a + 8) _ k (by omega) (by omega) hk) 8 0 k (by omega) (by omega)
theorem sum_f (s : ByteArray) (hs : s.size ≤ 140737488355328) : ∃ k, PBase.planisphereref01_Sum.f k s = some (ofT (Dig.sum (tx s))) := by
  refine ⟨11 * (s.size + 1) + 31, ?_⟩
  unfold PBase.planisphereref01_Sum.f
  rw [wu _ (by omega) (by omega), start_bits s (by omega)]
  have := sum_l0 s hs s.size 0 (Dig.start s.size) (11 * (s.size + 1) + 31) (by omega) (by omega) (by omega)
  rw [List.drop_zero] at this
  unfold Dig.sum
  rw [tx_len]; exact this
end BaseFacts
end Go.Proofs.YteleheamnighkaaDoor
