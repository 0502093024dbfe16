/-
The walk of NetRefuses, where the arguments are few.
-/
import Derived.Test.YtamjclpopkfhmaaRefuses1
set_option linter.unusedVariables false
set_option linter.unusedSimpArgs false
namespace Go.Proofs.Ytamjclpopkfhmaa
open Go.RowKit Go.NetKit

/-- No message is longer than a send lets through. -/
def Small (N : NetS) : Prop := ∀ a b, ∀ s ∈ N.q a b, s.size ≤ 20000
theorem Small.setq {N : NetS} (h : Small N) (a b : Int) (l : List ByteArray) (hl : ∀ s ∈ l, s.size ≤ 20000) : Small (N.setq a b l) := by
  intro x y s hs
  simp only [NetS.setq] at hs
  split at hs
  · exact hl s hs
  · exact h x y s hs
theorem Small.run {N : NetS} (h : Small N) (o : OpS) : Small (o.run N).1 := by
  unfold OpS.run NetS.send NetS.deliver NetS.lose NetS.spoil NetS.cutS
  repeat' split
  all_goals first
    | exact h
    | exact h.setq _ _ _ (fun s hs => h _ _ s (List.mem_of_mem_eraseIdx hs))
    | skip
  all_goals first
    | (refine h.setq _ _ _ fun s hs => ?_
       rcases List.mem_append.1 hs with hs | hs
       · exact h _ _ s hs
       · simp only [List.mem_singleton] at hs; subst hs; omega)
    | (refine h.setq _ _ _ fun s hs => ?_
       obtain ⟨i, hi, rfl⟩ := List.mem_iff_getElem.1 hs
       rw [List.getElem_modify]
       split
       · rw [spoilt_size]; exact h _ _ _ (List.getElem_mem _)
       · exact h _ _ _ (List.getElem_mem _))
theorem Small.runs {N : NetS} (h : Small N) (ops : List OpS) : Small (runs N ops) := by
  unfold Ytamjclpopkfhmaa.runs
  induction ops generalizing N with
  | nil => exact h
  | cons o ops ih => exact ih (h.run o.three)
theorem Small.new (n : Int) : Small (NetS.new n) := fun _ _ _ h => by simp [NetS.new] at h
theorem Small.msg {N : NetS} (h : Small N) (a b i : Int) : (N.msg a b i).size ≤ 20000 := by
  unfold NetS.msg
  rw [List.getD_eq_getElem?_getD]
  by_cases hi : i.toNat < (N.q a b).length
  · rw [List.getElem?_eq_getElem hi]; exact h _ _ _ (List.getElem_mem _)
  · rw [List.getElem?_eq_none (by omega)]; decide

theorem spoilt_byte2 (s : ByteArray) (at_ mask : Int) (h1 : 1 ≤ mask) (h2 : mask ≤ 255) (h0 : 0 ≤ at_) (i : Nat) (hi : i < s.size) (hi' : i < (NetS.spoilt s at_ mask).size) :
    wrap64 (bits .xor .u8 (((NetS.spoilt s at_ mask)[i]'hi').toNat : Int) ((s[i]'hi).toNat : Int)) = if (i : Int) = at_ then mask else 0 := by
  have := spoilt_byte s at_ mask h1 h2 h0 i hi hi'
  have e : bits .xor .u8 (((NetS.spoilt s at_ mask)[i]'hi').toNat : Int) ((s[i]'hi).toNat : Int) = if (i : Int) = at_ then mask else 0 := this
  rw [e]
  unfold wrap64
  split <;> omega

set_option maxHeartbeats 4000000 in
set_option maxRecDepth 100000 in
theorem refuses_good (w : World) (A : Option Addr) (cap : Nat) (ops : List OpS) (h : OpsAt w.heap.size w A ops) (o : OpS) (hf : fewOps ops = true) (hg : fewOps [o] = true) :
    Calls Try.prog 8 #[.slice A ops.length cap, .agg (opC o)] w fun e w' => e = .returned (.bool true) ∧ Fr (fun _ => False) w w' := by
  have HO := Lib.hid h
  have HA := Lib.hid (show Fr (fun _ => False) w (w.alloc (.cells (opC o) 35)) from (Fr.refl _ w).alloc _)
  have hlen : ops.length ≤ 80 := by
    unfold fewOps at hf; rw [Bool.and_eq_true] at hf; exact of_decide_eq_true hf.1
  have HF := Lib.hid hf
  have HG := Lib.hid hg
  clear h hf hg
  go_enter Try.func8, Try.ntmps8
  rw [show opC o = #[.int .i64 o.kind, .int .i64 o.a, .int .i64 o.b, .int .i64 o.idx, .int .i64 o.at_, .int .i64 o.mask, .string o.text, .bool o.flag] from rfl]
  go_wp2_with fail
  refine (head_calls _).mono ?_
  rintro e w0 ⟨rfl, hf0⟩
  have H0 := Lib.hid (show Fr (fun _ => False) (w.alloc (.cells (opC o) 35)) w0 from hf0); clear hf0
  go_wp2_with fail
  refine ((Two.start w0).made 3 (by omega) (by omega)).mono ?_
  rintro e w1 ⟨g, rfl, t1⟩
  have H1 := Lib.hid t1; clear t1
  go_wp2_with fail
  refine (H1.out.symm.made 3 (by omega) (by omega)).mono ?_
  rintro e w2 ⟨g2, rfl, t2⟩
  have H2 := Lib.hid t2.symm; clear t2
  go_wp2_with fail
  refine (few_raw w.heap.size w2 A cap ops (HO.out.later (HA.out.trans (H0.out.trans H2.out.fr)))).mono ?_
  rintro e w3 ⟨rfl, rfl⟩
  rw [HF.out]
  obtain ⟨c0, c1, c2, c3, c4, c5, c6, c7⟩ := box_cells2 ((H0.out.trans H2.out.fr).bk (bk_alloc_new (w := w) (o := .cells (opC o) 35)) (fun h => h))
  go_wp2_with fail
  refine (few_raw (w3.heap.size + 1) (w3.alloc (.cells (opC o) 35)) (some ⟨w3.heap.size, 0, none⟩) 1 [o] (one_opsAt w3 o)).mono ?_
  rintro e w4 ⟨rfl, rfl⟩
  rw [HG.out]
  clear c0 c1 c2 c3 c4 c5 c6 c7
  go_wp2_with fail
  go_loopw [10] (fun i wr => ∃ k : Nat, k ≤ ops.length ∧ i = .int .i64 k ∧ Two w0 wr (some ⟨g, 0, none⟩) (some ⟨g2, 0, none⟩) (runs (NetS.new 3) (ops.take k)) (runs (NetS.new 3) (ops.take k))) (fun i _ => ops.length - (intOf i).toNat)
  case atStart => exact ⟨0, Nat.zero_le _, rfl, H2.out.beside ((Fr.refl _ _).alloc _)⟩
  case round =>
    obtain ⟨k, hk, rfl, htw⟩ := hrel
    have HW := Lib.hid htw; clear htw
    by_cases hlt : k < ops.length
    · obtain ⟨bb, off, rfl, hbb, c0, c1, c2, c3, c4, c5, c6, c7⟩ := (HO.out.later (HA.out.trans (H0.out.trans HW.out.fr))).cells k hlt
      go_wp2_with fail
      refine (three_raw (opAt ops k) wr).mono ?_
      rintro e w5 ⟨rfl, hf5⟩
      have H5 := Lib.hid (HW.out.beside hf5); clear hf5 c0 c1 c2 c3 c4 c5 c6 c7
      go_wp2_with fail
      refine (H5.out.run (opAt ops k).three).mono ?_
      rintro e w6 ⟨rfl, h6⟩
      have H6 := Lib.hid h6; clear h6
      obtain ⟨bb2, off2, e2, _, c0, c1, c2, c3, c4, c5, c6, c7⟩ := (HO.out.later (HA.out.trans (H0.out.trans H6.out.fr))).cells k hlt
      injection e2 with e2; injection e2 with e2 e3
      subst e2; subst e3
      go_wp2_with fail
      refine (three_raw (opAt ops k) w6).mono ?_
      rintro e w7 ⟨rfl, hf7⟩
      have H7 := Lib.hid (H6.out.beside hf7); clear hf7 c0 c1 c2 c3 c4 c5 c6 c7
      go_wp2_with fail
      refine (H7.out.run' (opAt ops k).three).mono ?_
      rintro e w8 ⟨rfl, h8⟩
      have H8 := Lib.hid h8; clear h8
      go_wp2_with fail
      go_roundw
      case rel =>
        refine ⟨k + 1, by omega, by go_num, ?_⟩
        rw [runs_take _ _ _ hlt]; exact H8.out
      case measure => simp [intOf]; omega
    · obtain rfl : k = ops.length := by omega
      clear hlt hk
      rw [List.take_length] at HW
      have hn3 : (runs (NetS.new 3) ops).nodes = 3 := by rw [runs_nodes]; rfl
      have hsm0 := (Small.new 3).runs ops
      generalize hX : runs (NetS.new 3) ops = X at HW hn3 hsm0
      have HSM0 := Lib.hid hsm0
      clear hsm0
      have HX := Lib.hid hn3
      clear hX hn3
      obtain ⟨c0, c1, c2, c3, c4, c5, c6, c7⟩ := box_cells2 ((H0.out.trans HW.out.fr).bk (bk_alloc_new (w := w) (o := .cells (opC o) 35)) (fun h => h))
      rcases hR : o.run X with ⟨N1, s1, n1, r1⟩
      have hrun := HW.out.run o
      rw [hR] at hrun
      simp only at hrun
      have HRN := Lib.hid hrun
      have HR := Lib.hid hR
      clear hrun hR
      by_cases hr : r1 = 0
      · by_cases hk3 : o.kind = 3
        · skip
          have e3 : (o.kind == 3) = true := by simp [hk3]
          have e3' : (o.kind != 3) = false := by simp [hk3]
          subst hr
          have hss := spoil_some hk3 (by rw [HR.out])
          rw [HR.out] at hss
          obtain ⟨hsp, hss2⟩ := hss
          injection hss2 with q1 q2
          injection q2 with q2 q3
          injection q3 with q3 q4
          have hag := spoil_again hsp hk3
          have hsm := spoilt_msg hsp
          have hwm := whole_msg hsp
          have hbyte := fun i h1 h2 => spoilt_byte2 (X.msg o.a o.b o.idx) o.at_ o.mask hsp.m1 hsp.m2 hsp.a0 i h1 h2
          have hle : (X.msg o.a o.b o.idx).size ≤ 20000 := HSM0.out.msg _ _ _
          have hsz : (NetS.spoilt (X.msg o.a o.b o.idx) o.at_ o.mask).size = (X.msg o.a o.b o.idx).size := spoilt_size _ _ _
          generalize hmo : (X.setq o.a o.b ((X.q o.a o.b).modify o.idx.toNat (NetS.spoilt · o.at_ o.mask))) = Y at q1 hag hsm
          have hok : Y.ok o.a o.b = true := by rw [← hmo]; exact hsp.ok
          have hc1 := cutS_ok hok false
          have hc2 := cutS_ok hsp.ok false
          generalize htx : X.msg o.a o.b o.idx = tx at hsm hwm hbyte hsz hle
          generalize hty : NetS.spoilt tx o.at_ o.mask = ty at hsm hbyte hsz
          subst q1 q2 q3
          obtain ⟨N3, hag1, hag2, hag3⟩ := hag
          generalize hY' : N1.setc o.a o.b false = Y' at hc1 hsm hag1
          generalize hX' : X.setc o.a o.b false = X' at hc2 hwm
          have hXq : X'.q = X.q := by rw [← hX']; rfl
          have hXn : X'.nodes = 3 := by rw [← hX']; exact HX.out
          have hN3 : N3.nodes = 3 := by rw [hag3]; exact HX.out
          have HH := Lib.hid (And.intro hag1 (And.intro hag2 (And.intro hXq (And.intro hXn hN3))))
          have HC1 := Lib.hid hc1
          have HC2 := Lib.hid hc2
          have HSM := Lib.hid hsm
          have HWM := Lib.hid hwm
          have HBY := Lib.hid hbyte
          have HSZ := Lib.hid hsz
          clear hag1 hag2 hag3 hc1 hc2 hsm hwm hbyte hsz hk3 hsp q4 hok hmo htx hty hY' hX' hXq hXn hN3
          go_wp2_with fail
          refine HRN.out.mono ?_
          rintro e w6 ⟨rfl, h6⟩
          obtain ⟨d0, d1, d2, d3, d4, d5, d6, d7⟩ := box_cells2 ((H0.out.trans h6.fr).bk (bk_alloc_new (w := w) (o := .cells (opC o) 35)) (fun h => h))
          have H6 := Lib.hid h6; clear h6 c0 c1 c2 c3 c4 c5 c6 c7
          go_wp2_with fail
          refine (H6.out.cut o.a o.b false 0 (by rw [HC1.out])).mono ?_
          rintro e w7 ⟨rfl, h7⟩
          rw [HC1.out] at h7
          obtain ⟨c0, c1, c2, c3, c4, c5, c6, c7⟩ := box_cells2 ((H0.out.trans h7.fr).bk (bk_alloc_new (w := w) (o := .cells (opC o) 35)) (fun h => h))
          have H7 := Lib.hid h7; clear h7 d0 d1 d2 d3 d4 d5 d6 d7
          go_wp2_with fail
          refine (H7.out.symm.cut o.a o.b false 0 (by rw [HC2.out])).mono ?_
          rintro e w8 ⟨rfl, h8⟩
          rw [HC2.out] at h8
          obtain ⟨d0, d1, d2, d3, d4, d5, d6, d7⟩ := box_cells2 ((H0.out.trans h8.fr).bk (bk_alloc_new (w := w) (o := .cells (opC o) 35)) (fun h => h))
          have H8 := Lib.hid h8; clear h8 c0 c1 c2 c3 c4 c5 c6 c7
          go_wp2_with fail
          refine (H8.out.symm.deliver o.a o.b o.idx true _ _ (by rw [HSM.out])).mono ?_
          rintro e w9 ⟨rfl, h9⟩
          simp only [HSM.out] at h9
          obtain ⟨c0, c1, c2, c3, c4, c5, c6, c7⟩ := box_cells2 ((H0.out.trans h9.fr).bk (bk_alloc_new (w := w) (o := .cells (opC o) 35)) (fun h => h))
          have H9 := Lib.hid h9; clear h9 d0 d1 d2 d3 d4 d5 d6 d7
          go_wp2_with fail
          refine (H9.out.symm.deliver o.a o.b o.idx true _ _ (by rw [HWM.out])).mono ?_
          rintro e w10 ⟨rfl, h10⟩
          simp only [HWM.out] at h10
          have hbk := ((H0.out.trans h10.fr).bk (bk_alloc_new (w := w) (o := .cells (opC o) 35)) (fun h => h))
          have H10 := Lib.hid h10.symm; clear h10 c0 c1 c2 c3 c4 c5 c6 c7
          have hle2 : ty.size ≤ 20000 := by have := HSZ.out; omega
          have ez : ((ty.size : Int) != (tx.size : Int)) = false := by simp [HSZ.out]
          go_wp2_with fail
          go_loopw [18, 19] (fun i y wr => ∃ k : Nat, k ≤ ty.size ∧ i = .int .i64 k ∧ ∃ n, wr = w10.drewN n) (fun i _ _ => ty.size - (intOf i).toNat)
          case atStart => exact ⟨0, Nat.zero_le _, rfl, 0, rfl⟩
          case round =>
            obtain ⟨k, hk, rfl, n, rfl⟩ := hrel
            by_cases hlt : k < ty.size
            · obtain ⟨c0, c1, c2, c3, c4, c5, c6, c7⟩ := box_cells2 (w := w10.drewN n) hbk
              have hlt2 : k < tx.size := by have := HSZ.out; omega
              have z1 : 0 ≤ (k : Int) := by omega
              have z2 : (k : Int) < (ty.size : Int) := by omega
              have z3 : (k : Int) < (tx.size : Int) := by omega
              have hb := HBY.out k hlt2 hlt
              by_cases ha : (k : Int) = o.at_
              · rw [if_pos ha] at hb
                have ea : ((k : Int) == o.at_) = true := by simp [ha]
                clear ha
                have em : (wrap64 (bits .xor .u8 ((ty[k]'hlt).toNat : Int) ((tx[k]'hlt2).toNat : Int)) != o.mask) = false := by rw [hb]; simp
                go_wp2_with fail
                go_quiet (fail)
                go_wp2_with fail
                go_roundw
                case rel => exact ⟨k + 1, by omega, by go_num, _, rfl⟩
                case measure => simp [intOf]; omega
              · rw [if_neg ha] at hb
                have ea : ((k : Int) == o.at_) = false := by simp [ha]
                clear ha
                have em : (wrap64 (bits .xor .u8 ((ty[k]'hlt).toNat : Int) ((tx[k]'hlt2).toNat : Int)) != 0) = false := by rw [hb]; simp
                go_wp2_with fail
                go_quiet (fail)
                go_wp2_with fail
                go_roundw
                case rel => exact ⟨k + 1, by omega, by go_num, _, rfl⟩
                case measure => simp [intOf]; omega
            · obtain rfl : k = ty.size := by omega
              clear hlt hk
              obtain ⟨c0, c1, c2, c3, c4, c5, c6, c7⟩ := box_cells2 (w := w10.drewN n) hbk
              have HD := Lib.hid (H10.out.beside ((Fr.refl _ _).drewN n))
              go_wp2_with fail
              refine (HD.out.run o).mono ?_
              rw [HH.out.1]
              rintro e w11 ⟨rfl, h11⟩
              have H11 := Lib.hid h11; clear h11 c0 c1 c2 c3 c4 c5 c6 c7
              go_wp2_with fail
              refine (H11.out.all1 HH.out.2.2.2.2).mono ?_
              rintro e y1 ⟨A1, k1, rfl, hh⟩
              have HF2 := Lib.hid hh; clear hh
              go_wp2_with fail
              refine (HF2.out.all2 HH.out.2.2.2.1).mono ?_
              rintro e y2 ⟨A2, k2, rfl, hfr, hra, hrb⟩
              have HS := Lib.hid (And.intro hfr (And.intro hra hrb)); clear hfr hra hrb
              go_wp2_with fail
              refine (same9 HS.out.2.1 HS.out.2.2 (HH.out.2.1.trans HH.out.2.2.1.symm)).mono ?_
              rintro e y3 ⟨rfl, n2, rfl⟩
              go_wp2_with fail
              go_ret
              exact ⟨rfl, (HA.out.trans (H0.out.trans HS.out.1)).drewN n2⟩
        · have e3 : (o.kind == 3) = false := by simp [hk3]
          have e3' : (o.kind != 3) = true := by simp [hk3]
          subst hr
          clear hk3
          go_wp2_with fail
          refine HRN.out.mono ?_
          rintro e w6 ⟨rfl, h6⟩
          obtain ⟨d0, d1, d2, d3, d4, d5, d6, d7⟩ := box_cells2 ((H0.out.trans h6.fr).bk (bk_alloc_new (w := w) (o := .cells (opC o) 35)) (fun h => h))
          have H6 := Lib.hid h6.fr; clear h6 c0 c1 c2 c3 c4 c5 c6 c7
          go_wp2_with fail
          go_ret
          exact ⟨rfl, HA.out.trans (H0.out.trans H6.out)⟩
      · have e1 : (r1 == 0) = false := by simp [hr]
        have e2 : (r1 != 0) = true := by simp [hr]
        have hN : N1 = X := by
          have := run_err X o (by rw [HR.out]; exact hr)
          rw [HR.out] at this; exact this
        subst hN
        clear hr
        go_wp2_with fail
        refine HRN.out.mono ?_
        rintro e w6 ⟨rfl, h6⟩
        have H6 := Lib.hid h6; clear h6 c0 c1 c2 c3 c4 c5 c6 c7
        go_wp2_with fail
        refine (H6.out.all1 HX.out).mono ?_
        rintro e y1 ⟨A1, k1, rfl, hh⟩
        have HH := Lib.hid hh; clear hh
        go_wp2_with fail
        refine (HH.out.all2 HX.out).mono ?_
        rintro e y2 ⟨A2, k2, rfl, hfr, hra, hrb⟩
        have HS := Lib.hid (And.intro hfr (And.intro hra hrb)); clear hfr hra hrb
        go_wp2_with fail
        refine (same9 HS.out.2.1 HS.out.2.2 rfl).mono ?_
        rintro e y3 ⟨rfl, n, rfl⟩
        go_wp2_with fail
        go_ret
        exact ⟨rfl, (HA.out.trans (H0.out.trans HS.out.1)).drewN n⟩
end Go.Proofs.Ytamjclpopkfhmaa
