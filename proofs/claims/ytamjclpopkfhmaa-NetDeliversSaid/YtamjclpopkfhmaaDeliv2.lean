/-
The walk of NetDelivers.
-/
import Derived.Test.YtamjclpopkfhmaaDeliv1
import Derived.Deep.RegionHeld3
set_option linter.unusedVariables false
set_option linter.unusedSimpArgs false
namespace Go.Proofs.Ytamjclpopkfhmaa
open Go.RowKit Go.NetKit

set_option maxHeartbeats 1000000 in
set_option maxRecDepth 100000 in
theorem delivers_big (w : World) (A : Option Addr) (cap : Nat) (ops : List OpS) (h : OpsAt w.heap.size w A ops) (hf : fewOps ops = false) :
    Calls Try.prog 5 #[.slice A ops.length cap] w fun e w' => e = .returned (.bool true) ∧ Fr (fun _ => False) w w' := by
  have HO := Lib.hid h
  have HF := Lib.hid hf
  clear h hf
  go_enter Try.func5, Try.ntmps5
  go_wp2_with fail
  refine (head_calls w).mono ?_
  rintro e w0 ⟨rfl, hf0⟩
  have H0 := Lib.hid hf0; clear hf0
  go_wp2_with fail
  refine ((Two.start w0).made 3 (by omega) (by omega)).mono ?_
  rintro e w1 ⟨g, rfl, t1⟩
  have H1 := Lib.hid t1; clear t1
  go_wp2_with fail
  refine (few_raw w.heap.size w1 A cap ops (HO.out.later (H0.out.trans H1.out.fr))).mono ?_
  rintro e w3 ⟨rfl, rfl⟩
  rw [HF.out]
  go_wp2_with fail
  go_ret
  exact ⟨rfl, H0.out.trans H1.out.fr⟩

/-- What the loop knows. -/
def DelK (w0 wr : World) (p : Option Addr) (mb : Nat) : Prop := ∃ N S E ck lab, N.nodes = 3 ∧ Few N ∧ Del w0 wr p N mb N.q S E ck lab
theorem DelK.start {w0 w : World} {p q : Option Addr} {M : NetS} (h : Two w0 w p q (NetS.new 3) M) : DelK w0 (w.alloc (.map #[] 0)) p w.heap.size := by
  obtain ⟨S, T, h1, h2, h3, h4, h5, h6⟩ := h
  have hf : Fr (fun _ => False) w (w.alloc (.map #[] 0)) := (Fr.refl _ _).alloc _
  exact ⟨NetS.new 3, S, [], 0, fun _ => none, rfl, Few.new 3, ⟨h1.fr hf (fun _ _ h => h), h4, h6.trans hf, bk_alloc_new, h6.size, fun hs => by have := h1.lt _ hs; omega, (fun a b v hv => by cases hv), fun _ _ _ => rfl, rfl, (fun k hk => by cases hk)⟩⟩

set_option maxHeartbeats 4000000 in
set_option maxRecDepth 100000 in
theorem delivers_good (w : World) (A : Option Addr) (cap : Nat) (ops : List OpS) (h : OpsAt w.heap.size w A ops) (hfew : fewOps ops = true) :
    Calls Try.prog 5 #[.slice A ops.length cap] w fun e w' => e = .returned (.bool true) ∧ Fr (fun _ => False) w w' := by
  have hlen : ops.length ≤ 80 := by
    unfold fewOps at hfew; rw [Bool.and_eq_true] at hfew; exact of_decide_eq_true hfew.1
  have HO := Lib.hid h
  have HF := Lib.hid hfew
  clear h hfew
  go_enter Try.func5, Try.ntmps5
  go_wp2_with fail
  refine (head_calls w).mono ?_
  rintro e w0 ⟨rfl, hf0⟩
  have H0 := Lib.hid hf0; clear hf0
  go_wp2_with fail
  refine ((Two.start w0).made 3 (by omega) (by omega)).mono ?_
  rintro e w1 ⟨g, rfl, t1⟩
  have H1 := Lib.hid t1; clear t1
  go_wp2_with fail
  refine (few_raw w.heap.size w1 A cap ops (HO.out.later (H0.out.trans H1.out.fr))).mono ?_
  rintro e w3 ⟨rfl, rfl⟩
  rw [HF.out]
  have hmk := @run_makeMap Try.prog
  go_wp2_with fail
  clear hmk
  go_loopw [7] (fun i wr => ∃ k : Nat, k ≤ ops.length ∧ i = .int .i64 k ∧ DelK w0 wr (some ⟨g, 0, none⟩) w3.heap.size) (fun i _ => ops.length - (intOf i).toNat)
  case atStart => exact ⟨0, Nat.zero_le _, rfl, DelK.start H1.out⟩
  case round =>
    obtain ⟨k, hk, rfl, N, S, E, ck, lab, hn3, hN, hD⟩ := hrel
    have HD := Lib.hid (And.intro hn3 (And.intro hN hD)); clear hn3 hN hD
    by_cases hlt : k < ops.length
    · obtain ⟨bb, off, rfl, hbb, c0, c1, c2, c3, c4, c5, c6, c7⟩ := (HO.out.later (H0.out.trans HD.out.2.2.fr)).cells k hlt
      go_wp2_with fail
      refine (three_raw (opAt ops k) wr).mono ?_
      rintro e w4 ⟨rfl, hf4⟩
      have hok := three_ok N HD.out.1 (opAt ops k)
      generalize ho : (opAt ops k).three = o at hok
      have HB := Lib.hid hok
      have H4 := Lib.hid ((HD.out.2.2.beside hf4).beside ((Fr.refl _ _).alloc (.cells (opC o) 35))); 
      have hX := bk_alloc_new (w := w4) (o := .cells (opC o) 35)
      obtain ⟨d0, d1, d2, d3, d4, d5, d6, d7⟩ := box_cells2 hX
      have HX := Lib.hid hX
      have HXS := Lib.hid (show ¬ S w4.heap.size from fun hs => by have := (HD.out.2.2.net.fr hf4 (fun _ _ h => h)).lt _ hs; omega)
      clear hf4 c0 c1 c2 c3 c4 c5 c6 c7 hX ho hok
      rw [show opC o = #[.int .i64 o.kind, .int .i64 o.a, .int .i64 o.b, .int .i64 o.idx, .int .i64 o.at_, .int .i64 o.mask, .string o.text, .bool o.flag] from rfl] at d0 d1 d2 d3 d4 d5 d6 d7 ⊢
      by_cases hk3 : o.kind = 3
      · have e1 : (o.kind == 3) = true := by simp [hk3]
        clear hk3
        go_wp2_with fail
        go_roundw
        case rel => exact ⟨k + 1, by omega, by go_num, N, S, E, ck, lab, HD.out.1, HD.out.2.1, H4.out⟩
        case measure => simp [intOf]; omega
      · have e1 : (o.kind == 3) = false := by simp [hk3]
        have HK3 := Lib.hid hk3
        clear hk3
        rcases hR : o.run N with ⟨N1, s1, n1, r1⟩
        have HR := Lib.hid hR
        clear hR
        go_wp2_with fail
        refine (H4.out.op (fun S hS => by
          have := do_raw hS o
          rw [HR.out] at this; exact this)).mono ?_
        rintro e w5 ⟨rfl, S5, hD5, hb5⟩
        have hX5 := hb5 _ _ HX.out HXS.out
        clear hb5 d0 d1 d2 d3 d4 d5 d6 d7
        obtain ⟨d0, d1, d2, d3, d4, d5, d6, d7⟩ := box_cells2 hX5
        obtain ⟨c0, c1, c2, c3, c4, c5, c6, c7⟩ := box_cells2 (((Fr.refl (fun _ => False) w5).alloc (.cells #[.int .i64 o.a, .int .i64 o.b] 45)).bk hX5 (fun h => h))
        have hm5 := hD5.hm
        have hl5 := bk_lt hD5.hm
        obtain ⟨A', c', hget, hown, hvb⟩ := hD5.read o.a o.b
        have hlk := fun W h => lookup43 w3.heap.size E ck o.a o.b W h
        rw [hget] at hlk
        have HV := Lib.hid (And.intro hget (And.intro hown hvb))
        have H5 := Lib.hid hD5
        have HX5 := Lib.hid hX5
        clear hget hown hvb hD5 hX5
        have HQ := HD.out.2.1 o.a o.b
        by_cases hko : o.kind < 0 ∨ 4 < o.kind
        · obtain ⟨rfl, rfl, rfl⟩ := del_other hko HB.out HR.out
          have e2 : (((N1.q o.a o.b).length : Int) != ((N1.q o.a o.b).length : Int)) = false := by simp
          rcases hko with hko | hko
          · go_wp2_with fail
            go_roundw
            case rel => exact ⟨k + 1, by omega, by go_num, N1, S5, E, ck, lab, HD.out.1, HD.out.2.1, H5.out.beside ((Fr.refl _ _).alloc _)⟩
            case measure => simp [intOf]; omega
          · have hko' : ¬ o.kind < 0 := by omega
            go_wp2_with fail
            go_roundw
            case rel => exact ⟨k + 1, by omega, by go_num, N1, S5, E, ck, lab, HD.out.1, HD.out.2.1, H5.out.beside ((Fr.refl _ _).alloc _)⟩
            case measure => simp [intOf]; omega
        · have hk0 : ¬ o.kind < 0 := by omega
          have hk4 : ¬ 4 < o.kind := by omega
          clear hko
          by_cases hr : r1 = 0
          · subst hr
            have hn1 : N1.nodes = 3 := by have := run_nodes N o; rw [HR.out] at this; rw [this]; exact HD.out.1
            have hf1 : Few N1 := by have := HD.out.2.1.run o; rw [HR.out] at this; exact this
            have H1N := Lib.hid (And.intro hn1 hf1)
            clear hn1 hf1
            by_cases ho4 : o.kind = 4
            · have e2 : (o.kind == 4) = true := by simp [ho4]
              have e3 := del_cut ho4 HR.out
              have E3 := Lib.hid e3
              clear e3 ho4
              go_wp2_with fail
              go_roundw
              case rel => exact ⟨k + 1, by omega, by go_num, N1, S5, E, ck, lab, H1N.out.1, H1N.out.2, E3.out ▸ H5.out.beside ((Fr.refl _ _).alloc _)⟩
              case measure => simp [intOf]; omega
            · have e2 : (o.kind == 4) = false := by simp [ho4]
              by_cases ho0 : o.kind = 0
              · have e3 : (o.kind == 0) = true := by simp [ho0]
                have hds := Lib.hid (del_send ho0 HR.out)
                clear ho4 ho0
                obtain ⟨v', w8, hr, hown8, hf8, hn8⟩ := push_texts (((w5.alloc (.cells #[.int .i64 o.a, .int .i64 o.b] 45)).alloc (.cells #[.string o.text] 9)).drew) (.slice A' (N.q o.a o.b).length c') _ _ ((HV.out.2.1.alloc _).alloc _)
                  ⟨w5.heap.size + 1, 0, none⟩ 1 1 [.string o.text] rfl (fun j u hu => by
                    cases j with
                    | zero =>
                      simp at hu; subst hu
                      have := bk_alloc_new (w := w5.alloc (.cells #[.int .i64 o.a, .int .i64 o.b] 45)) (o := .cells #[.string o.text] 9)
                      rw [World.size_alloc] at this
                      exact cell?_bk (w := ((w5.alloc (.cells #[.int .i64 o.a, .int .i64 o.b] 45)).alloc (.cells #[.string o.text] 9)).drew) this 0
                    | succ j => simp at hu) (by intro u hu; simp at hu; subst hu; rfl) (by omega)
                obtain ⟨A8, c8, rfl⟩ := ownsRow_form1 hown8 (by omega)
                have hff : Fr (fun k => (Value.slice A' (N.q o.a o.b).length c').ownBlock = some k) w5 w8 := (((Fr.refl _ w5).alloc _).alloc _).drew.trans hf8
                have hm8 : bk w8 w3.heap.size = some (.map (ents E) ck) := hff.bk hm5 (fun e => by
                  have h1 := HV.out.2.2 _ e
                  rw [H5.out.lm] at h1; cases h1)
                have hk8 : bk w8 w5.heap.size = some (.cells #[.int .i64 o.a, .int .i64 o.b] 45) := hf8.bk (k := w5.heap.size) (by
                  show bk ((w5.alloc (.cells #[.int .i64 o.a, .int .i64 o.b] 45)).alloc (.cells #[.string o.text] 9)) w5.heap.size = _
                  rw [bk_alloc_lt (by simp)]; exact bk_alloc_new) (fun e => by
                  have h1 := HV.out.2.2 _ e
                  have := (H5.out.ln _ (by rw [h1]; rfl)).2.2; omega)
                have x0 : w8.cell? ⟨w5.heap.size, 0, none⟩ = some (.int .i64 o.a) := cell?_bk hk8 0
                have x1 : w8.cell? ⟨w5.heap.size, 1, none⟩ = some (.int .i64 o.b) := cell?_bk hk8 1
                clear hk8
                have hup := update43 w3.heap.size E ck o.a o.b (.slice A8 ((N.q o.a o.b).length + 1) c8) w8 hm8
                obtain ⟨lab', hput⟩ := H5.out.put o.a o.b (.slice A' (N.q o.a o.b).length c') (.slice A8 ((N.q o.a o.b).length + 1) c8) HV.out.2.2 (N.q o.a o.b ++ [o.text]) hff (by simpa using hown8) (fun k hk => by
                  rcases hn8 k hk with h1 | h1
                  · exact .inl h1
                  · right; rw [h1]; show w5.heap.size ≤ ((w5.alloc _).alloc _).heap.size; simp; omega)
                have HP := Lib.hid hput
                have HRR := Lib.hid hr
                clear hput hr hown8 hf8 hn8 hff
                go_wp2_with fail
                go_region_law (refine step_builtin rfl .append #[.tmp 85, .tmp 88] #[46, 46] rfl #[.slice A' (N.q o.a o.b).length c', .slice (some ⟨w5.heap.size + 1, 0, none⟩) 1 1] (by simp [Act.eval, Act.put]) (ran_append HRR.out) ?_)
                all_goals go_wp2_with fail
                all_goals go_roundw
                all_goals first
                  | exact ⟨k + 1, by omega, by go_num, N1, S5, _, _, lab', H1N.out.1, H1N.out.2, hds.out.2 ▸ HP.out⟩
                  | (simp [intOf]; omega)
              · have e3 : (o.kind == 0) = false := by simp [ho0]
                have hdd : 0 ≤ o.idx ∧ o.idx < (N.q o.a o.b).length ∧ (o.kind = 1 → s1 = N.msg o.a o.b o.idx) ∧ N1.q = if o.kind = 1 ∧ o.flag = true then N.q else upd N.q o.a o.b ((N.q o.a o.b).eraseIdx o.idx.toNat) := by
                  by_cases h1 : o.kind = 1
                  · obtain ⟨d1, d2, d3, d4⟩ := del_deliver h1 HR.out
                    refine ⟨d1, d2, fun _ => d3, ?_⟩
                    rw [d4]; simp [h1]
                  · have h2 : o.kind = 2 := by have := HK3.out; omega
                    obtain ⟨d1, d2, d4⟩ := del_lose h2 HR.out
                    refine ⟨d1, d2, fun h => absurd h h1, ?_⟩
                    rw [d4, if_neg (fun h => h1 h.1)]
                obtain ⟨hi0, hi1, hmsg, hN1⟩ := hdd
                obtain ⟨i, hi⟩ := Int.eq_ofNat_of_zero_le hi0
                rw [hi] at c3 d3 hi0 hi1
                have hin : i < (N.q o.a o.b).length := by omega
                obtain ⟨hqm, b9, hA, hcell⟩ := own_cell HV.out.2.1 (by omega)
                subst hA
                have hc9 := hcell i hin
                have hs9 : ((N.q o.a o.b).map Value.string).getD i undef = .string (N.msg o.a o.b o.idx) := by
                  rw [hi]; simp [NetS.msg, List.getD_eq_getElem?_getD, hin]
                rw [hs9] at hc9
                have hlt9 := World.block_lt_of_cell? w5 _ hc9
                simp only at hlt9
                clear hcell hs9 ho4 ho0
                by_cases hkf : o.kind = 1 ∧ o.flag = true
                · rw [if_pos hkf] at hN1
                  obtain rfl := hmsg hkf.1
                  have e4 : (o.kind == 1) = true := by simp [hkf.1]
                  have e5 : (o.kind == 2) = false := by simp [hkf.1]
                  have e6 := hkf.2
                  have HN1 := Lib.hid hN1
                  clear hkf hmsg hN1 hi
                  go_wp2_with fail
                  go_roundw
                  case rel => exact ⟨k + 1, by omega, by go_num, N1, S5, E, ck, lab, H1N.out.1, H1N.out.2, HN1.out ▸ H5.out.beside ((Fr.refl _ _).alloc _)⟩
                  case measure => simp [intOf]; omega
                · rw [if_neg hkf] at hN1
                  by_cases hcap : c' = i + 1
                  · have hnc : (N.q o.a o.b).length ≤ c' := by
                      rcases HV.out.2.1.2 with ⟨h0, _⟩ | ⟨g9, cap9, cur9, hv9, _, hh9, hnc9, hcm9, _⟩
                      · cases h0
                      · injection hv9 with _ _ h3; omega
                    subst hcap
                    obtain ⟨A1, c1, w7, A8, c8, w8, r1, r8, o8, f7, f8, n8⟩ := cut_texts (.cells #[.int .i64 o.a, .int .i64 o.b] 45) _ b9 (i + 1) i HV.out.2.1 hin (by omega) ⟨b9, 0, none⟩ (.inl (by omega))
                    rw [Nat.sub_self] at r8
                    have hm8 := f8.bk (((Fr.refl (fun _ => False) w5).alloc (.cells #[.int .i64 o.a, .int .i64 o.b] 45)).bk hm5 (fun h => h)) (fun h => h)
                    have hup := update43 w3.heap.size E ck o.a o.b (.slice A8 ((N.q o.a o.b).length - 1) c8) w8 hm8
                    obtain ⟨lab', hput⟩ := H5.out.put o.a o.b _ (.slice A8 ((N.q o.a o.b).length - 1) c8) HV.out.2.2 ((N.q o.a o.b).eraseIdx i) ((((Fr.refl (fun _ => False) w5).alloc _).trans f8).weaken (fun _ _ h => h.elim)) o8 (fun k hk => .inr (n8 k hk))
                    have hN1' : N1.q = upd N.q o.a o.b ((N.q o.a o.b).eraseIdx i) := by rw [hN1, hi]; rfl
                    have HP := Lib.hid (hN1' ▸ hput)
                    have HR1 := Lib.hid r1
                    have HR8 := Lib.hid r8
                    have hkey : bk (w5.alloc (.cells #[.int .i64 o.a, .int .i64 o.b] 45)) w5.heap.size = some (.cells #[.int .i64 o.a, .int .i64 o.b] 45) := bk_alloc_new
                    have hk7 := f7.bk hkey (fun h => h)
                    have hk8 := f8.bk hkey (fun h => h)
                    have x0 : w8.cell? ⟨w5.heap.size, 0, none⟩ = some (.int .i64 o.a) := cell?_bk hk8 0
                    have x1 : w8.cell? ⟨w5.heap.size, 1, none⟩ = some (.int .i64 o.b) := cell?_bk hk8 1
                    have x2 : w7.cell? ⟨w5.heap.size, 0, none⟩ = some (.int .i64 o.a) := cell?_bk hk7 0
                    have x3 : w7.cell? ⟨w5.heap.size, 1, none⟩ = some (.int .i64 o.b) := cell?_bk hk7 1
                    have hX5' := HX5.out
                    have hX6 := ((Fr.refl (fun _ => False) w5).alloc (.cells #[.int .i64 o.a, .int .i64 o.b] 45)).bk hX5' (fun h => h)
                    have y7 : w7.cell? ⟨w4.heap.size, 3, none⟩ = some (.int .i64 i) := by rw [cell?_bk (f7.bk hX6 (fun h => h)), ← hi]; rfl
                    have y8 : w8.cell? ⟨w4.heap.size, 3, none⟩ = some (.int .i64 i) := by rw [cell?_bk (f8.bk hX6 (fun h => h)), ← hi]; rfl
                    have hW9 : Fr (fun _ => False) (w5.alloc (.cells #[.int .i64 o.a, .int .i64 o.b] 45)) ((w5.alloc (.cells #[.int .i64 o.a, .int .i64 o.b] 45)).alloc (.cells #[] 9)) := (Fr.refl _ _).alloc _
                    have y9 : ((w5.alloc (.cells #[.int .i64 o.a, .int .i64 o.b] 45)).alloc (.cells #[] 9)).cell? ⟨w4.heap.size, 3, none⟩ = some (.int .i64 i) := by rw [cell?_bk (hW9.bk hX6 (fun h => h)), ← hi]; rfl
                    have x4 : ((w5.alloc (.cells #[.int .i64 o.a, .int .i64 o.b] 45)).alloc (.cells #[] 9)).cell? ⟨w5.heap.size, 0, none⟩ = some (.int .i64 o.a) := cell?_bk (hW9.bk hkey (fun h => h)) 0
                    have x5 : ((w5.alloc (.cells #[.int .i64 o.a, .int .i64 o.b] 45)).alloc (.cells #[] 9)).cell? ⟨w5.heap.size, 1, none⟩ = some (.int .i64 o.b) := cell?_bk (hW9.bk hkey (fun h => h)) 1
                    clear hW9
                    have z1 : i ≤ i + 1 := by omega
                    have z9 : (i : Int) ≤ (i : Int) + 1 := by omega
                    have z2 : i ≤ (N.q o.a o.b).length := by omega
                    have z3 : i + 1 ≤ (N.q o.a o.b).length := by omega
                    have z4 : 0 ≤ (i : Int) + 1 := by omega
                    have z5 : (i : Int) + 1 ≤ ((N.q o.a o.b).length : Int) := by omega
                    have z6 : (i : Int) ≤ ((N.q o.a o.b).length : Int) := by omega
                    have z7 : IntKind.i64.wrap ((i : Int) + 1) = (i : Int) + 1 := by simp [IntKind.wrap, IntKind.bits, IntKind.signed]; omega
                    have z8 : ((i : Int) + 1).toNat = i + 1 := by omega
                    clear r1 r8 hput hN1 hN1' hi hk7 hk8 hkey hX5' hX6 f7 f8 n8 o8
                    by_cases ho1 : o.kind = 1
                    · obtain rfl := hmsg ho1
                      have e4 : (o.kind == 1) = true := by simp [ho1]
                      have e5 : (o.kind == 2) = false := by simp [ho1]
                      have e6 : o.flag = false := by
                        cases hx : o.flag
                        · rfl
                        · exact absurd ⟨ho1, hx⟩ hkf
                      clear hmsg hkf ho1
                      go_wp2_with fail
                      have ne1 : ¬ w5.heap.size = w3.heap.size := by omega
                      have ne2 : ¬ w4.heap.size = w3.heap.size := fun e => by
                        have h1 := H4.out.hm
                        rw [← e, HX.out] at h1; cases h1
                      go_region_held3 (fun W' => W'.cell? ⟨w5.heap.size, 0, none⟩ = some (.int .i64 o.a) ∧ W'.cell? ⟨w5.heap.size, 1, none⟩ = some (.int .i64 o.b) ∧ W'.cell? ⟨w4.heap.size, 3, none⟩ = some (.int .i64 i)) (first | exact ⟨x4, x5, y9⟩ | exact ⟨x2, x3, y7⟩ | exact ⟨x0, x1, y8⟩ | exact ⟨(cell?_setBk ne1).trans x0, (cell?_setBk ne1).trans x1, (cell?_setBk ne2).trans y8⟩ | go_keep)
                        (first
                        | refine step_builtin rfl .append #[.tmp 124, .tmp 128] #[46, 46] rfl #[.slice (some ⟨w5.heap.size + 1, 0, none⟩) 0 0, .slice (some ⟨b9, 0, none⟩) i (i + 1)] (by simp [Act.eval, Act.put]) (ran_append HR1.out) ?_
                        | refine step_builtin rfl .append #[.tmp 129, .tmp 134] #[46, 46] rfl #[.slice A1 i c1, .slice (some ⟨b9, 0, none⟩) ((N.q o.a o.b).length - (i + 1)) 0] (by simp [Act.eval, Act.put]; try omega) (ran_append HR8.out) ?_)
                      all_goals go_wp2_with fail
                      all_goals go_roundw
                      all_goals first
                        | exact ⟨k + 1, by omega, by go_num, N1, S5, _, _, lab', H1N.out.1, H1N.out.2, HP.out⟩
                        | (simp [intOf]; omega)
                    · have ho2 : o.kind = 2 := by
                        have := HK3.out
                        have q4 : o.kind ≠ 4 := by simpa using e2
                        have q0 : o.kind ≠ 0 := by simpa using e3
                        omega
                      have e4 : (o.kind == 1) = false := by simp [ho1]
                      have e5 : (o.kind == 2) = true := by simp [ho2]
                      clear hmsg hkf ho1 ho2
                      go_wp2_with fail
                      have ne1 : ¬ w5.heap.size = w3.heap.size := by omega
                      have ne2 : ¬ w4.heap.size = w3.heap.size := fun e => by
                        have h1 := H4.out.hm
                        rw [← e, HX.out] at h1; cases h1
                      go_region_held3 (fun W' => W'.cell? ⟨w5.heap.size, 0, none⟩ = some (.int .i64 o.a) ∧ W'.cell? ⟨w5.heap.size, 1, none⟩ = some (.int .i64 o.b) ∧ W'.cell? ⟨w4.heap.size, 3, none⟩ = some (.int .i64 i)) (first | exact ⟨x4, x5, y9⟩ | exact ⟨x2, x3, y7⟩ | exact ⟨x0, x1, y8⟩ | exact ⟨(cell?_setBk ne1).trans x0, (cell?_setBk ne1).trans x1, (cell?_setBk ne2).trans y8⟩ | go_keep)
                        (first
                        | refine step_builtin rfl .append #[.tmp 124, .tmp 128] #[46, 46] rfl #[.slice (some ⟨w5.heap.size + 1, 0, none⟩) 0 0, .slice (some ⟨b9, 0, none⟩) i (i + 1)] (by simp [Act.eval, Act.put]) (ran_append HR1.out) ?_
                        | refine step_builtin rfl .append #[.tmp 129, .tmp 134] #[46, 46] rfl #[.slice A1 i c1, .slice (some ⟨b9, 0, none⟩) ((N.q o.a o.b).length - (i + 1)) 0] (by simp [Act.eval, Act.put]; try omega) (ran_append HR8.out) ?_)
                      all_goals go_wp2_with fail
                      all_goals go_roundw
                      all_goals first
                        | exact ⟨k + 1, by omega, by go_num, N1, S5, _, _, lab', H1N.out.1, H1N.out.2, HP.out⟩
                        | (simp [intOf]; omega)
                  · obtain ⟨A1, c1, w7, A8, c8, w8, r1, r8, o8, f7, f8, n8⟩ := cut_texts (.cells #[.int .i64 o.a, .int .i64 o.b] 45) _ b9 c' i HV.out.2.1 hin (by omega) ⟨b9, i + 1, none⟩ (.inr rfl)
                    have hm8 := f8.bk (((Fr.refl (fun _ => False) w5).alloc (.cells #[.int .i64 o.a, .int .i64 o.b] 45)).bk hm5 (fun h => h)) (fun h => h)
                    have hup := update43 w3.heap.size E ck o.a o.b (.slice A8 ((N.q o.a o.b).length - 1) c8) w8 hm8
                    obtain ⟨lab', hput⟩ := H5.out.put o.a o.b _ (.slice A8 ((N.q o.a o.b).length - 1) c8) HV.out.2.2 ((N.q o.a o.b).eraseIdx i) ((((Fr.refl (fun _ => False) w5).alloc _).trans f8).weaken (fun _ _ h => h.elim)) o8 (fun k hk => .inr (n8 k hk))
                    have hN1' : N1.q = upd N.q o.a o.b ((N.q o.a o.b).eraseIdx i) := by rw [hN1, hi]; rfl
                    have HP := Lib.hid (hN1' ▸ hput)
                    have HR1 := Lib.hid r1
                    have HR8 := Lib.hid r8
                    have hkey : bk (w5.alloc (.cells #[.int .i64 o.a, .int .i64 o.b] 45)) w5.heap.size = some (.cells #[.int .i64 o.a, .int .i64 o.b] 45) := bk_alloc_new
                    have hk7 := f7.bk hkey (fun h => h)
                    have hk8 := f8.bk hkey (fun h => h)
                    have x0 : w8.cell? ⟨w5.heap.size, 0, none⟩ = some (.int .i64 o.a) := cell?_bk hk8 0
                    have x1 : w8.cell? ⟨w5.heap.size, 1, none⟩ = some (.int .i64 o.b) := cell?_bk hk8 1
                    have x2 : w7.cell? ⟨w5.heap.size, 0, none⟩ = some (.int .i64 o.a) := cell?_bk hk7 0
                    have x3 : w7.cell? ⟨w5.heap.size, 1, none⟩ = some (.int .i64 o.b) := cell?_bk hk7 1
                    have hX5' := HX5.out
                    have hX6 := ((Fr.refl (fun _ => False) w5).alloc (.cells #[.int .i64 o.a, .int .i64 o.b] 45)).bk hX5' (fun h => h)
                    have y7 : w7.cell? ⟨w4.heap.size, 3, none⟩ = some (.int .i64 i) := by rw [cell?_bk (f7.bk hX6 (fun h => h)), ← hi]; rfl
                    have y8 : w8.cell? ⟨w4.heap.size, 3, none⟩ = some (.int .i64 i) := by rw [cell?_bk (f8.bk hX6 (fun h => h)), ← hi]; rfl
                    have hW9 : Fr (fun _ => False) (w5.alloc (.cells #[.int .i64 o.a, .int .i64 o.b] 45)) ((w5.alloc (.cells #[.int .i64 o.a, .int .i64 o.b] 45)).alloc (.cells #[] 9)) := (Fr.refl _ _).alloc _
                    have y9 : ((w5.alloc (.cells #[.int .i64 o.a, .int .i64 o.b] 45)).alloc (.cells #[] 9)).cell? ⟨w4.heap.size, 3, none⟩ = some (.int .i64 i) := by rw [cell?_bk (hW9.bk hX6 (fun h => h)), ← hi]; rfl
                    have x4 : ((w5.alloc (.cells #[.int .i64 o.a, .int .i64 o.b] 45)).alloc (.cells #[] 9)).cell? ⟨w5.heap.size, 0, none⟩ = some (.int .i64 o.a) := cell?_bk (hW9.bk hkey (fun h => h)) 0
                    have x5 : ((w5.alloc (.cells #[.int .i64 o.a, .int .i64 o.b] 45)).alloc (.cells #[] 9)).cell? ⟨w5.heap.size, 1, none⟩ = some (.int .i64 o.b) := cell?_bk (hW9.bk hkey (fun h => h)) 1
                    clear hW9
                    have z1 : i ≤ c' := by
                      rcases HV.out.2.1.2 with ⟨h0, _⟩ | ⟨g9, cap9, cur9, hv9, _, hh9, hnc9, hcm9, _⟩
                      · cases h0
                      · injection hv9 with _ _ h3; omega
                    have z2 : i ≤ (N.q o.a o.b).length := by omega
                    have z3 : i + 1 ≤ (N.q o.a o.b).length := by omega
                    have z4 : 0 ≤ (i : Int) + 1 := by omega
                    have z5 : (i : Int) + 1 ≤ ((N.q o.a o.b).length : Int) := by omega
                    have z6 : (i : Int) ≤ ((N.q o.a o.b).length : Int) := by omega
                    have z7 : IntKind.i64.wrap ((i : Int) + 1) = (i : Int) + 1 := by simp [IntKind.wrap, IntKind.bits, IntKind.signed]; omega
                    have z8 : ((i : Int) + 1).toNat = i + 1 := by omega
                    have hne : ¬ c' = i + 1 := hcap
                    clear r1 r8 hput hN1 hN1' hi hk7 hk8 hkey hX5' hX6 f7 f8 n8 o8 hcap
                    by_cases ho1 : o.kind = 1
                    · obtain rfl := hmsg ho1
                      have e4 : (o.kind == 1) = true := by simp [ho1]
                      have e5 : (o.kind == 2) = false := by simp [ho1]
                      have e6 : o.flag = false := by
                        cases hx : o.flag
                        · rfl
                        · exact absurd ⟨ho1, hx⟩ hkf
                      clear hmsg hkf ho1
                      go_wp2_with fail
                      have ne1 : ¬ w5.heap.size = w3.heap.size := by omega
                      have ne2 : ¬ w4.heap.size = w3.heap.size := fun e => by
                        have h1 := H4.out.hm
                        rw [← e, HX.out] at h1; cases h1
                      go_region_held3 (fun W' => W'.cell? ⟨w5.heap.size, 0, none⟩ = some (.int .i64 o.a) ∧ W'.cell? ⟨w5.heap.size, 1, none⟩ = some (.int .i64 o.b) ∧ W'.cell? ⟨w4.heap.size, 3, none⟩ = some (.int .i64 i)) (first | exact ⟨x4, x5, y9⟩ | exact ⟨x2, x3, y7⟩ | exact ⟨x0, x1, y8⟩ | exact ⟨(cell?_setBk ne1).trans x0, (cell?_setBk ne1).trans x1, (cell?_setBk ne2).trans y8⟩ | go_keep)
                        (first
                        | refine step_builtin rfl .append #[.tmp 124, .tmp 128] #[46, 46] rfl #[.slice (some ⟨w5.heap.size + 1, 0, none⟩) 0 0, .slice (some ⟨b9, 0, none⟩) i c'] (by simp [Act.eval, Act.put]) (ran_append HR1.out) ?_
                        | refine step_builtin rfl .append #[.tmp 129, .tmp 134] #[46, 46] rfl #[.slice A1 i c1, .slice (some ⟨b9, i + 1, none⟩) ((N.q o.a o.b).length - (i + 1)) (c' - (i + 1))] (by simp [Act.eval, Act.put]) (ran_append HR8.out) ?_)
                      all_goals go_wp2_with fail
                      all_goals go_roundw
                      all_goals first
                        | exact ⟨k + 1, by omega, by go_num, N1, S5, _, _, lab', H1N.out.1, H1N.out.2, HP.out⟩
                        | (simp [intOf]; omega)
                    · have ho2 : o.kind = 2 := by
                        have := HK3.out
                        have q4 : o.kind ≠ 4 := by simpa using e2
                        have q0 : o.kind ≠ 0 := by simpa using e3
                        omega
                      have e4 : (o.kind == 1) = false := by simp [ho1]
                      have e5 : (o.kind == 2) = true := by simp [ho2]
                      clear hmsg hkf ho1 ho2
                      go_wp2_with fail
                      have ne1 : ¬ w5.heap.size = w3.heap.size := by omega
                      have ne2 : ¬ w4.heap.size = w3.heap.size := fun e => by
                        have h1 := H4.out.hm
                        rw [← e, HX.out] at h1; cases h1
                      go_region_held3 (fun W' => W'.cell? ⟨w5.heap.size, 0, none⟩ = some (.int .i64 o.a) ∧ W'.cell? ⟨w5.heap.size, 1, none⟩ = some (.int .i64 o.b) ∧ W'.cell? ⟨w4.heap.size, 3, none⟩ = some (.int .i64 i)) (first | exact ⟨x4, x5, y9⟩ | exact ⟨x2, x3, y7⟩ | exact ⟨x0, x1, y8⟩ | exact ⟨(cell?_setBk ne1).trans x0, (cell?_setBk ne1).trans x1, (cell?_setBk ne2).trans y8⟩ | go_keep)
                        (first
                        | refine step_builtin rfl .append #[.tmp 124, .tmp 128] #[46, 46] rfl #[.slice (some ⟨w5.heap.size + 1, 0, none⟩) 0 0, .slice (some ⟨b9, 0, none⟩) i c'] (by simp [Act.eval, Act.put]) (ran_append HR1.out) ?_
                        | refine step_builtin rfl .append #[.tmp 129, .tmp 134] #[46, 46] rfl #[.slice A1 i c1, .slice (some ⟨b9, i + 1, none⟩) ((N.q o.a o.b).length - (i + 1)) (c' - (i + 1))] (by simp [Act.eval, Act.put]) (ran_append HR8.out) ?_)
                      all_goals go_wp2_with fail
                      all_goals go_roundw
                      all_goals first
                        | exact ⟨k + 1, by omega, by go_num, N1, S5, _, _, lab', H1N.out.1, H1N.out.2, HP.out⟩
                        | (simp [intOf]; omega)
          · obtain rfl := del_err HR.out hr
            have e2 : (r1 != 0) = true := by simp [hr]
            clear hr
            go_wp2_with fail
            go_roundw
            case rel => exact ⟨k + 1, by omega, by go_num, N1, S5, E, ck, lab, HD.out.1, HD.out.2.1, H5.out.beside ((Fr.refl _ _).alloc _)⟩
            case measure => simp [intOf]; omega
    · obtain rfl : k = ops.length := by omega
      go_wp2_with fail
      go_ret
      exact ⟨rfl, H0.out.trans HD.out.2.2.fr⟩

theorem delivers_row (w : World) (x : OpsArg) (hx : OpsAt w.heap.size w x.A x.ops) :
    Calls Try.prog 5 #[x.value] w fun e w' => e = .returned (.bool true) ∧ Below w.heap.size w w' := by
  have hb' : ∀ {w w' : World}, Fr (fun _ => False) w w' → Below w.heap.size w w' := fun h => h.below _ (Nat.le_refl _) (fun _ h => h.elim)
  by_cases hf : fewOps x.ops = true
  · exact (delivers_good w x.A x.cap x.ops hx hf).mono fun e w' hh => ⟨hh.1, hb' hh.2⟩
  · exact (delivers_big w x.A x.cap x.ops hx (by simpa using hf)).mono fun e w' hh => ⟨hh.1, hb' hh.2⟩
end Go.Proofs.Ytamjclpopkfhmaa
