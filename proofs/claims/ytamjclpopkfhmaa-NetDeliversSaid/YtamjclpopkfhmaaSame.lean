/-
The walk of same.
-/
import Derived.Test.YtamjclpopkfhmaaAll
set_option linter.unusedVariables false
set_option linter.unusedSimpArgs false
namespace Go.Proofs.Ytamjclpopkfhmaa
open Go.RowKit Go.NetKit

/-- A row of texts that is read. -/
def RowR (w : World) (A : Option Addr) (r : List ByteArray) : Prop := 0 < r.length → ∃ b, A = some ⟨b, 0, none⟩ ∧ ∀ k, k < r.length → w.cell? ⟨b, k, none⟩ = some (.string (r.getD k ByteArray.empty))
def RowsR (w : World) (A : Option Addr) (rows : List (List ByteArray)) : Prop :=
  0 < rows.length → ∃ b, A = some ⟨b, 0, none⟩ ∧ ∀ i, i < rows.length → ∃ Ai ci, w.cell? ⟨b, i, none⟩ = some (.slice Ai (rows.getD i []).length ci) ∧ RowR w Ai (rows.getD i []) ∧ (rows.getD i []).length ≤ 9223372036854775807

theorem own_cell {w : World} {e : TypeId} {A : Option Addr} {n c : Nat} {xs : List Value} (h : w.ownsRow 0 e 1 (.slice A n c) n xs) (hn : 0 < n) : n ≤ 9223372036854775807 ∧ ∃ b, A = some ⟨b, 0, none⟩ ∧ ∀ k, k < n → w.cell? ⟨b, k, none⟩ = some (xs.getD k undef) := by
  rcases h.2 with ⟨h0, rfl⟩ | ⟨g, cap, cur, hv, _, hh, hnc, hcm, _, htk⟩
  · have := h.1; simp at this; omega
  · injection hv with h1 h2 h3
    refine ⟨by have : n ≤ maxLen := Nat.le_trans hnc hcm; simpa [maxLen] using this, g, h1, fun k hk => ?_⟩
    rw [cell?_bk (b := g) hh, ← htk]
    rw [Nat.mul_one, List.getD_eq_getElem?_getD, List.getElem?_take, if_pos hk]
    have hlen := h.1
    have : k < cur.toList.length := by
      have := congrArg List.length htk
      simp at this; simp; omega
    rw [List.getElem?_eq_getElem this]; simp
theorem Mine.row {w wr : World} {S' : Nat → Prop} {A : Option Addr} {c : Nat} {r : List ByteArray} (h : Mine w wr S' 9 (.slice A r.length c) (r.map .string)) : RowR wr A r := by
  intro hn
  have ho := h.own
  rw [List.length_map] at ho
  obtain ⟨_, b, e, hc⟩ := own_cell ho hn
  refine ⟨b, e, fun k hk => ?_⟩
  rw [hc k hk]
  simp [List.getD_eq_getElem?_getD, hk]
theorem RowsM.rows {w wr : World} {S' : Nat → Prop} {A : Option Addr} {c : Nat} {rows : List (List ByteArray)} (h : RowsM w wr S' (.slice A rows.length c) rows) : RowsR wr A rows := by
  intro hn
  obtain ⟨vs, h1, h2, h3⟩ := h
  have ho := h2.own
  rw [h1] at ho
  obtain ⟨_, b, e, hc⟩ := own_cell ho hn
  refine ⟨b, e, fun i hi => ?_⟩
  obtain ⟨Ai, ci, e2, hm⟩ := h3 i (by omega)
  refine ⟨Ai, ci, by rw [hc i hi, e2], ?_, ?_⟩
  · rw [e2] at hm; exact hm.row
  · by_cases h0 : (rows.getD i []).length = 0
    · omega
    · rw [e2] at hm
      have hmo := hm.own
      rw [List.length_map] at hmo
      exact (own_cell hmo (by omega)).1

theorem RowR.fr {w w' : World} {T : Nat → Prop} {A : Option Addr} {r : List ByteArray} (h : RowR w A r) (hf : Fr T w w') (hT : ∀ b, A = some ⟨b, 0, none⟩ → ¬ T b) : RowR w' A r := by
  intro hn
  obtain ⟨b, e, hc⟩ := h hn
  refine ⟨b, e, fun k hk => ?_⟩
  have h1 := hc k hk
  have hlt : b < w.heap.size := World.block_lt_of_cell? w _ h1
  have h2 : w'.heap[b]? = w.heap[b]? := hf.block b hlt (hT b e)
  exact (World.cell?_of_block (w := w) (w' := w') (a := ⟨b, k, none⟩) h2).trans h1

theorem toList_inj {a b : ByteArray} (h : a.toList = b.toList) : a = b := by
  rw [ByteArray.toList_eq, ByteArray.toList_eq] at h
  cases a; cases b
  simp only at h
  congr 1
  exact Array.toList_inj.1 h

set_option maxHeartbeats 2000000 in
theorem same_calls (w : World) (A B : Option Addr) (ca cb : Nat) (ra rb : List (List ByteArray)) (ha : RowsR w A ra) (hb : RowsR w B rb) (hla : ra.length ≤ 1000) (hlb : rb.length ≤ 1000) :
    Calls Try.prog 20 #[.slice A ra.length ca, .slice B rb.length cb] w fun e w' => e = .returned (.bool (decide (ra = rb))) ∧ ∃ n, w' = w.drewN n := by
  by_cases hl : ra.length = rb.length
  · have e1 : ((ra.length : Int) == (rb.length : Int)) = true := by simp [hl]
    have e2 : ((ra.length : Int) != (rb.length : Int)) = false := by simp [hl]
    have HA := Lib.hid ha
    have HB := Lib.hid hb
    have HL := Lib.hid hl
    clear ha hb hl
    go_enter Try.func20, Try.ntmps20
    go_wp2_with fail
    go_loopw [5, 6] (fun i _ wr => ∃ k : Nat, k ≤ ra.length ∧ i = .int .i64 k ∧ (∃ n, wr = w.drewN n) ∧ Hid (∀ j, j < k → ra.getD j [] = rb.getD j [])) (fun i _ _ => ra.length - (intOf i).toNat)
    case atStart => exact ⟨0, Nat.zero_le _, rfl, ⟨0, rfl⟩, fun j hj => absurd hj (by omega)⟩
    case round =>
      obtain ⟨k, hk, rfl, ⟨n, rfl⟩, HE⟩ := hrel
      by_cases hlt : k < ra.length
      · have hltb : k < rb.length := by have := HL.out; omega
        obtain ⟨ba, rfl, hca⟩ := HA.out (by omega)
        obtain ⟨bb, rfl, hcb⟩ := HB.out (by omega)
        obtain ⟨Aa, cca, r1, r2, r3⟩ := hca k hlt
        obtain ⟨Ab, ccb, r4, r5, r6⟩ := hcb k hltb
        clear hca hcb
        generalize hra : ra.getD k [] = rowA at r1 r2 r3
        generalize hrb : rb.getD k [] = rowB at r4 r5 r6
        have HRA := Lib.hid hra
        have HRB := Lib.hid hrb
        have H2 := Lib.hid r2
        have H5 := Lib.hid r5
        clear hra hrb r2 r5
        have z1 : 0 ≤ (k : Int) := by omega
        have z2 : (k : Int) < (ra.length : Int) := by omega
        have z3 : (k : Int) < (rb.length : Int) := by omega
        by_cases hrl : rowA.length = rowB.length
        · have f1 : ((rowA.length : Int) == (rowB.length : Int)) = true := by simp [hrl]
          have f2 : ((rowA.length : Int) != (rowB.length : Int)) = false := by simp [hrl]
          have HRL := Lib.hid hrl
          clear hrl
          go_wp2_with fail
          go_quiet (fail)
          go_wp2_with fail
          go_loopw [6] (fun i wr => ∃ j : Nat, j ≤ rowA.length ∧ i = .int .i64 j ∧ (∃ n, wr = w.drewN n) ∧ Hid (∀ x, x < j → rowA.getD x ByteArray.empty = rowB.getD x ByteArray.empty)) (fun i _ => rowA.length - (intOf i).toNat)
          case atStart => exact ⟨0, Nat.zero_le _, rfl, ⟨_, World.drewN_drewN _ _ _⟩, fun j hj => absurd hj (by omega)⟩
          case round =>
            obtain ⟨j, hj, rfl, ⟨n2, rfl⟩, HJ⟩ := hrel
            by_cases hlj : j < rowA.length
            · have hljb : j < rowB.length := by have := HRL.out; omega
              obtain ⟨xa, rfl, hxa⟩ := H2.out (by omega)
              obtain ⟨xb, rfl, hxb⟩ := H5.out (by omega)
              have s1 := hxa j hlj
              have s2 := hxb j hljb
              clear hxa hxb
              have y1 : 0 ≤ (j : Int) := by omega
              have y2 : (j : Int) < (rowA.length : Int) := by omega
              have y3 : (j : Int) < (rowB.length : Int) := by omega
              generalize hsa : rowA.getD j ByteArray.empty = sa at s1
              generalize hsb : rowB.getD j ByteArray.empty = sb at s2
              have HSA := Lib.hid hsa
              have HSB := Lib.hid hsb
              clear hsa hsb
              by_cases hs : sa = sb
              · subst hs
                go_wp2_with fail
                go_quiet (fail)
                go_wp2_with fail
                go_roundw
                case rel =>
                  refine ⟨j + 1, by omega, by go_num, ⟨_, rfl⟩, ?_⟩
                  intro x hx
                  rcases Nat.lt_succ_iff_lt_or_eq.1 hx with h | rfl
                  · exact HJ.out x h
                  · rw [HSA.out, HSB.out]
                case measure => simp [intOf]; omega
              · have g1 : (sa.toList == sb.toList) = false := by
                  rw [beq_eq_false_iff_ne]; exact fun e => hs (toList_inj e)
                have HS := Lib.hid hs
                clear hs
                go_wp2_with fail
                go_quiet (fail)
                go_wp2_with fail
                go_ret
                refine ⟨?_, _, World.drewN_drewN _ _ _⟩
                have : decide (ra = rb) = false := by
                  rw [decide_eq_false_iff_not]
                  intro e
                  have h1 := HRA.out
                  have h2 := HRB.out
                  rw [e, h2] at h1
                  have h3 := HSA.out
                  have h4 := HSB.out
                  rw [← h1, h4] at h3
                  exact HS.out h3.symm
                rw [this]; rfl
            · obtain rfl : j = rowA.length := by omega
              go_wp2_with fail
              go_roundw
              case rel =>
                refine ⟨k + 1, by omega, by go_num, ⟨n2, rfl⟩, ?_⟩
                intro x hx
                rcases Nat.lt_succ_iff_lt_or_eq.1 hx with h | rfl
                · exact HE.out x h
                · rw [HRA.out, HRB.out]
                  apply List.ext_getElem HRL.out
                  intro m h1 h2
                  have := HJ.out m h1
                  simpa [List.getD_eq_getElem?_getD, h1, h2] using this
              case measure => simp [intOf]; omega
        · have f1 : ((rowA.length : Int) == (rowB.length : Int)) = false := by simp; omega
          have f2 : ((rowA.length : Int) != (rowB.length : Int)) = true := by simp; omega
          have HRL := Lib.hid hrl
          clear hrl
          go_wp2_with fail
          go_quiet (fail)
          go_wp2_with fail
          go_ret
          refine ⟨?_, _, World.drewN_drewN _ _ _⟩
          have : decide (ra = rb) = false := by
            rw [decide_eq_false_iff_not]
            intro e
            have h1 := HRA.out
            have h2 := HRB.out
            rw [e, h2] at h1
            exact HRL.out (by rw [h1])
          rw [this]; rfl
      · obtain rfl : k = ra.length := by omega
        go_wp2_with fail
        go_ret
        refine ⟨?_, n, rfl⟩
        have : decide (ra = rb) = true := by
          rw [decide_eq_true_eq]
          apply List.ext_getElem HL.out
          intro m h1 h2
          have := HE.out m h1
          simpa [List.getD_eq_getElem?_getD, h1, h2] using this
        rw [this]; rfl
  · have e1 : ((ra.length : Int) == (rb.length : Int)) = false := by simp; omega
    have e2 : ((ra.length : Int) != (rb.length : Int)) = true := by simp; omega
    have HL := Lib.hid hl
    clear ha hb hl
    go_enter Try.func20, Try.ntmps20
    go_wp2_with fail
    go_ret
    refine ⟨?_, 0, rfl⟩
    have : decide (ra = rb) = false := by
      rw [decide_eq_false_iff_not]
      intro e
      exact HL.out (by rw [e])
    rw [this]; rfl
end Go.Proofs.Ytamjclpopkfhmaa
