/-
The walk of the reference's joining of texts.
-/
import Derived.Test.YteleheamnighkaaDoorBase3
import Derived.Test.YteleheamnighkaaDoorDig5
import Derived.Test.YteleheamnighkaaDoorWMore
import Derived.Laws.MakeOwn
set_option linter.unusedVariables false
set_option linter.unusedSimpArgs false
namespace Go.Proofs.YteleheamnighkaaDoor
open Go.RowKit Go.DoorKit Go.Proofs.YteleheamnighkaaDoorW.PrintWords Go.Proofs.YteleheamnighkaaDoorW.PrintMore
theorem dec_any (n : Int) (h0 : 0 ≤ n) (h1 : n ≤ 9223372036854775807) (w : World) :
    Calls Tryd.prog 47 #[.int .i64 n] w fun e w' => (∃ t : ByteArray, e = .returned (.string t) ∧ Hid (tx t = Lib.decDigits n.toNat)) ∧ Below w.heap.size w w' := by
  obtain ⟨u, rfl⟩ := Int.eq_ofNat_of_zero_le h0
  refine (PBase.planisphereref01_Decimal.calls 30 u _ w (BaseFacts.decimal_f u (by omega))).mono ?_
  rintro e w' ⟨rfl, hd⟩
  exact ⟨⟨_, rfl, Lib.hid rfl⟩, hd.below⟩
/-- The sum of what is made room for. -/
theorem need_take (l : List ByteArray) (i : Nat) (s : ByteArray) (h : l[i]? = some s) : need (l.take (i + 1)) = need (l.take i) + (s.size + 21) := by
  unfold need
  rw [List.take_add_one, h, Option.toList_some, List.map_append, List.sum_append]
  simp
theorem need_le (l : List ByteArray) (i : Nat) : need (l.take i) ≤ need l := by
  have h : need l = need (l.take i) + need (l.drop i) := by
    unfold need; rw [← List.sum_append, ← List.map_append, List.take_append_drop]
  omega
theorem need_len : ∀ l : List ByteArray, l.length ≤ need l
  | [] => Nat.zero_le _
  | s :: l => by
    have := need_len l
    have e : need (s :: l) = s.size + 21 + need l := rfl
    rw [e, List.length_cons]; omega
/-- A text's bytes as numbers. -/
def bl (t : List UInt8) : List Int := t.map fun c => (c.toNat : Int)
theorem bl_len (t : List UInt8) : (bl t).length = t.length := by simp [bl]
theorem bl_append (a b : List UInt8) : bl a ++ bl b = bl (a ++ b) := by simp [bl]
theorem strOf_bl (t : List UInt8) : strOfNums (bl t) = ofT t := strOf_l t
/-- A row of bytes of the call's own. -/
def Row (W : World) (b : Nat) (v : Value) (t : List UInt8) : Prop := W.ownsRow b 5 1 v (bl t).length (nums .u8 (bl t))
theorem infoB : (Tryd.prog.info? 5).map (fun i => (i.zero, i.size, i.bytes)) = some (some (.int .u8 0), 1, 1) := by kernel_rfl
theorem make_row (w : World) (n : Nat) (hn : n ≤ 140737488355328) : ∃ w1, (Instr.makeSlice 56 (.int .i64 0) (.int .i64 (n : Int))).run Tryd.prog w = .ok (.slice (some ⟨w.heap.size, 0, none⟩) 0 n) w1 ∧ Row w1 w.heap.size (.slice (some ⟨w.heap.size, 0, none⟩) 0 n) [] ∧ Below w.heap.size w w1 := by
  obtain ⟨i, hi, hz⟩ := Option.map_eq_some_iff.1 infoB
  simp only [Prod.mk.injEq] at hz
  obtain ⟨hz0, hz1, hz2⟩ := hz
  obtain ⟨w1, h1, h2, h3⟩ := run_make_own (P := Tryd.prog) w w.heap.size 56 5 i _ 1 Tryd.underlying56 hi hz0 hz1 .i64 .i64 n (by rw [hz2]; omega) (by unfold maxLen; omega) (Nat.le_refl _)
  exact ⟨w1, h1, h2, (Below.refl _ _).grown h3 (Nat.le_refl _) (fun k e => by cases e)⟩
/-- What stands behind the colon's append. -/
theorem colon_step {w w3 w4 : World} {v3 v4 : Value} {T : List UInt8} {ad : Addr} {l : List ByteArray} {i : Nat} {s : ByteArray} (hi : i < l.length)
    (HRow3 : w3.ownsRow w.heap.size 5 1 v3 (bl T).length (nums .u8 (bl T))) (HB3 : Below w.heap.size w w3)
    (ho4 : w4.ownsRow w.heap.size 5 1 v4 ((bl T).length + 1) (nums .u8 (bl T) ++ [Value.int .u8 58])) (hg4 : (w3.alloc (.cells #[.int .u8 58] 5)).grownBy w4 v3.ownBlock)
    (HR : Kd.C Kd.string w (some ad) l.length l) (hrd : rdOf ByteArray.empty l (i : Int) = s) :
    Hid (w4.ownsRow w.heap.size 5 1 v4 (bl (T ++ [58])).length (nums .u8 (bl (T ++ [58])))) ∧ Hid (Below w.heap.size w w4) ∧ w4.cell? (ad.add i) = some (.string s) := by
  have HB4 : Below w.heap.size w w4 := (HB3.alloc HB3.size _).grown hg4 (Nat.le_trans HB3.size (by simp)) (fun k hk => own_base HRow3 k hk)
  refine ⟨Lib.hid ?_, Lib.hid HB4, ?_⟩
  · have e1 : (bl T).length + 1 = (bl (T ++ [58])).length := by rw [bl_len, bl_len]; simp
    have e2 : nums .u8 (bl T) ++ [Value.int .u8 58] = nums .u8 (bl (T ++ [58])) := by rw [← bl_append, nums_append]; rfl
    rw [e1, e2] at ho4; exact ho4
  · obtain ⟨ad4, hA4, hcell4⟩ := Kd.at_string (Kd.C_below HR HB4) (i : Int) (by omega) (by omega)
    rw [hrd, Int.toNat_natCast] at hcell4
    obtain rfl := Option.some.inj hA4
    exact hcell4
theorem last_step {w w5 : World} {v5 : Value} {J : List UInt8} {t s : ByteArray} (ht : tx t = Lib.decDigits ((s.size : Nat) : Int).toNat)
    (ho5 : w5.ownsRow w.heap.size 5 1 v5 (bl (J ++ tx t ++ [58]) ++ bytesOf s).length (nums .u8 (bl (J ++ tx t ++ [58]) ++ bytesOf s))) : Hid (Row w5 w.heap.size v5 (J ++ Dig.piece (tx s))) := Lib.hid (by
  have e : bl (J ++ tx t ++ [58]) ++ bytesOf s = bl (J ++ Dig.piece (tx s)) := by
    show bl _ ++ bl (tx s) = _
    rw [bl_append]; congr 1
    unfold Dig.piece
    rw [ht, Int.toNat_natCast, tx_len]; simp
  rw [e] at ho5; exact ho5)
set_option maxRecDepth 100000 in
set_option maxHeartbeats 400000 in
theorem joined_calls (A : Option Addr) (c : Nat) (l : List ByteArray) (w : World) (hr : Kd.C Kd.string w A l.length l) (hc : l.length ≤ c) (hj : Big (need l)) :
    Calls Tryd.prog 23 #[.slice A l.length c] w fun e w' => e = .returned (.string (ofT (Dig.joined (l.map tx)))) ∧ Below w.heap.size w w' := by
  have hl : l.length ≤ 140737488355328 := Nat.le_trans (need_len l) hj.out
  have HR := Lib.hid hr
  have HJ := Lib.hid hj
  clear hr hj
  go_enter Tryd.func23, Tryd.ntmps23
  go_wp2_with fail
  go_loop [3, 4] (fun v3 v4 => ∃ i : Nat, i ≤ l.length ∧ v3 = .int .i64 (need (l.take i) : Nat) ∧ v4 = .int .i64 i) (fun _ v4 => l.length - (intOf v4).toNat)
  case atStart => exact ⟨0, Nat.zero_le _, rfl, rfl⟩
  case round =>
    obtain ⟨i, hi, rfl, rfl⟩ := hrel
    by_cases hlt : i < l.length
    · obtain ⟨ad, hA, hcell⟩ := Kd.at_string HR.out (i : Int) (by omega) (by omega)
      obtain ⟨s, hs⟩ : ∃ s, l[i]? = some s := ⟨_, List.getElem?_eq_getElem hlt⟩
      have hrd : rdOf ByteArray.empty l (i : Int) = s := by simp [rdOf, List.getD, hs]
      rw [hrd, Int.toNat_natCast] at hcell
      subst hA
      have hn := need_take l i s hs
      have hle := need_le l (i + 1)
      have hb := HJ.out.out
      have hx : need (l.take i) + (s.size + 21) ≤ 140737488355328 := by omega
      have HN := Lib.hid hn
      clear hn hle hb hs hrd
      generalize need (l.take i) = m at *
      go_wp2
      go_round
      case rel => exact ⟨i + 1, by omega, by rw [HN.out]; go_num, by go_num⟩
      case measure => simp [intOf]; omega
    · obtain rfl : i = l.length := by omega
      rw [List.take_of_length_le (Nat.le_refl _)]
      have hb := HJ.out.out
      obtain ⟨w1, hmk, hrow, hB1⟩ := make_row w (need l) hb
      go_wp2_with fail
      clear hmk
      have HR1 := Lib.hid hrow
      clear hrow
      go_loopw [5, 6] (fun v5 v6 wr => ∃ i : Nat, i ≤ l.length ∧ v6 = .int .i64 i ∧ Row wr w.heap.size v5 (Dig.joined ((l.map tx).take i)) ∧ Below w.heap.size w wr) (fun _ v6 _ => l.length - (intOf v6).toNat)
      case atStart => exact ⟨0, Nat.zero_le _, rfl, HR1.out, hB1⟩
      case round =>
        obtain ⟨i, hi, rfl, hrow, hB⟩ := hrel
        by_cases hlt : i < l.length
        · obtain ⟨ad, hA, hcell⟩ := Kd.at_string (Kd.C_below HR.out hB) (i : Int) (by omega) (by omega)
          obtain ⟨s, hs⟩ : ∃ s, l[i]? = some s := ⟨_, List.getElem?_eq_getElem hlt⟩
          have hrd : rdOf ByteArray.empty l (i : Int) = s := by simp [rdOf, List.getD, hs]
          rw [hrd, Int.toNat_natCast] at hcell
          subst hA
          have hst : (l.map tx)[i]? = some (tx s) := by rw [List.getElem?_map, hs]; rfl
          have hT := joined_take _ _ _ hst
          have hnt := need_take l i s hs
          have hnl := need_le l (i + 1)
          have hjn := joined_need (l.take i) (show need (l.take i) ≤ _ by omega)
          rw [List.map_take] at hjn
          have hss : s.size ≤ 140737488355328 := by omega
          have hsm : (s.size : Int) ≤ 9223372036854775807 := by omega
          have hlim : (Dig.joined ((l.map tx).take i)).length + (s.size + 21) ≤ 140737488355328 := by omega
          have HL := Lib.hid hlim
          have HT := Lib.hid hT
          clear hnt hnl hjn hlim hT hst hs
          generalize Dig.joined ((l.map tx).take i) = J at *
          have HB := Lib.hid hB
          have HRow := Lib.hid hrow
          have Hrd := Lib.hid hrd
          clear hrow hB hrd
          obtain ⟨ib, hib, hzz⟩ := Option.map_eq_some_iff.1 infoB
          simp only [Prod.mk.injEq] at hzz
          obtain ⟨hz0, hz1, hz2⟩ := hzz
          have HI := Lib.hid (And.intro hib (And.intro hz0 (And.intro hz1 hz2)))
          clear hib hz0 hz1 hz2
          go_wp2_with (first
            | (go_at_call 47; refine (dec_any (s.size : Int) (by omega) hsm wr).mono ?_; rintro e w2 ⟨⟨t, rfl, ht⟩, hb2⟩
               have htl : (tx t).length + 1 + s.size = (Dig.piece (tx s)).length := by rw [Dig.piece_len, ← Lib.decDigits_length, ht.out, tx_len, Int.toNat_natCast]
               have htn : (tx t).length ≤ 20 := by rw [ht.out, Int.toNat_natCast, Lib.decDigits_length]; exact Dig.nDigits_le (by omega) (by omega)
               have HRow2 := Lib.hid (pw_own_below HRow.out hb2)
               have HB2 := Lib.hid (HB.out.trans (hb2.mono HB.out.size))
               have HX1 := Lib.hid (show (bl J).length + t.size ≤ 140737488355328 by rw [bl_len, ← tx_len t]; have := HL.out; omega)
               have HX3 := Lib.hid (show (bl (J ++ tx t)).length + 1 ≤ 140737488355328 by rw [bl_len, List.length_append]; have := HL.out; omega)
               have HX4 := Lib.hid (show (bl (J ++ tx t ++ [58])).length + s.size ≤ 140737488355328 by rw [bl_len, List.length_append, List.length_append]; have := HL.out; simp only [List.length_singleton]; omega)
               clear hb2 htl htn)
            | ((with_reducible refine gate_builtin (b := .append) (xs := #[.tmp 29, .tmp 35]) rfl ?_); at_builtin; refine print_append_str (w0 := w) w.heap.size rfl (.tmp 29) (.tmp 35) 56 9 5 rfl Tryd.underlying56 Tryd.underlying9 infoB u5 (bl J) t rfl rfl HRow2.out HB2.out HB2.out.size HX1.out ?_; intro v3 w3 ho3 hb3 hg3
               have hbt : bl J ++ bytesOf t = bl (J ++ tx t) := bl_append _ _
               rw [hbt] at ho3
               have HRow3 := Lib.hid ho3
               have HB3 := Lib.hid hb3
               clear ho3 hb3 hg3 hbt)
            | ((with_reducible refine gate_builtin (b := .append) (xs := #[.tmp 37, .tmp 38]) rfl ?_); at_builtin; refine wpList_append_own _ rfl (.tmp 37) (.tmp 38) 56 rfl w.heap.size 5 ib (.int .u8 0) 1 1 Tryd.underlying56 HI.out.1 HI.out.2.1 HI.out.2.2.1 HI.out.2.2.2 rfl (by decide) v3 _ _ rfl (HRow3.out.alloc _) ⟨w3.heap.size, 0, none⟩ 1 1 [.int .u8 58] rfl rfl (cell_one_new _ _ _) (by simp [Value.oneCell']) (Nat.le_trans HX3.out (by unfold maxLen; omega)) (by rw [Nat.mul_one]; exact HX3.out) (Nat.le_trans HB3.out.size (by simp)) ?_; intro v4 w4 ho4 hg4 hn4; obtain ⟨HRow4, HB4, hcell4⟩ := colon_step hlt HRow3.out HB3.out ho4 hg4 HR.out Hrd.out; clear ho4 hg4 hn4)
            | ((with_reducible refine gate_builtin (b := .append) (xs := #[.tmp 40, .tmp 44]) rfl ?_); at_builtin; refine print_append_str (w0 := w) w.heap.size rfl (.tmp 40) (.tmp 44) 56 9 5 rfl Tryd.underlying56 Tryd.underlying9 infoB v4 (bl (J ++ tx t ++ [58])) s rfl rfl HRow4.out HB4.out HB4.out.size HX4.out ?_; intro v5 w5 ho5 hb5 hg5; have HRow5 := last_step ht.out ho5; have HB5 := Lib.hid hb5; clear ho5 hb5 hg5))
          go_roundw
          case rel => exact ⟨i + 1, by omega, by go_num, by rw [HT.out]; exact HRow5.out, HB5.out⟩
          case measure => simp [intOf]; omega
        · obtain rfl : i = l.length := by omega
          rw [List.take_of_length_le (by simp)] at hrow
          have hcv := own_string (P := Tryd.prog) (src := 56) (dst := 9) (e := 5) Tryd.underlying56 Tryd.underlying5 Tryd.underlying9 hrow
          rw [strOf_bl] at hcv
          clear hrow
          go_wp2_with fail
          go_ret
          exact ⟨rfl, hB⟩
end Go.Proofs.YteleheamnighkaaDoor
