/-
The walk of NetCuts.
-/
import Derived.Test.YtamjclpopkfhmaaTwo
set_option linter.unusedVariables false
set_option linter.unusedSimpArgs false
namespace Go.Proofs.Ytamjclpopkfhmaa
open Go.RowKit Go.NetKit

theorem OpsAt.later {w w' : World} {A : Option Addr} {ops : List OpS} (h : OpsAt w.heap.size w A ops) (hf : Fr (fun _ => False) w w') : OpsAt w.heap.size w' A ops := h.fr hf (fun _ _ h => h)

theorem Two.run {w0 w : World} {p q : Option Addr} {N M : NetS} (h : Two w0 w p q N M) (o : OpS) :
    Calls Try.prog 13 #[.pointer p, .agg (opC o)] w fun e w' => e = .returned (.tuple #[.string (o.run N).2.1, .int .i64 (o.run N).2.2.1, .int .i64 (o.run N).2.2.2]) ∧ Two w0 w' p q (o.run N).1 M :=
  h.step fun _ hS => do_raw hS o
theorem Two.run' {w0 w : World} {p q : Option Addr} {N M : NetS} (h : Two w0 w p q N M) (o : OpS) :
    Calls Try.prog 13 #[.pointer q, .agg (opC o)] w fun e w' => e = .returned (.tuple #[.string (o.run M).2.1, .int .i64 (o.run M).2.2.1, .int .i64 (o.run M).2.2.2]) ∧ Two w0 w' p q N (o.run M).1 :=
  (h.symm.run o).mono fun _ _ hh => ⟨hh.1, hh.2.symm⟩

set_option maxHeartbeats 1000000 in
set_option maxRecDepth 100000 in
theorem cuts_big (w : World) (A : Option Addr) (cap : Nat) (ops : List OpS) (h : OpsAt w.heap.size w A ops) (a b : Int) (ha : 0 ≤ a ∧ a ≤ 255) (hb : 0 ≤ b ∧ b ≤ 255) (s : ByteArray) (hbig : fewOps ops = false ∨ 60 < s.size) :
    Calls Try.prog 7 #[.slice A ops.length cap, .int .u8 a, .int .u8 b, .string s] w fun e w' => e = .returned (.bool true) ∧ Fr (fun _ => False) w w' := by
  have HO := Lib.hid h
  clear h
  by_cases hf : fewOps ops = false
  · have HF := Lib.hid hf
    clear hf hbig
    go_enter Try.func7, Try.ntmps7
    go_wp2_with fail
    refine (head_calls w).mono ?_
    rintro e w0 ⟨rfl, hf0⟩
    have H0 := Lib.hid hf0; clear hf0
    go_wp2_with fail
    refine ((Two.start w0).made 3 (by omega) (by omega)).mono ?_
    rintro e w1 ⟨g, rfl, t1⟩
    have H1 := Lib.hid t1; clear t1
    go_wp2_with fail
    refine (H1.out.symm.made 3 (by omega) (by omega)).mono ?_
    rintro e w2 ⟨g2, rfl, t2⟩
    have H2 := Lib.hid (H0.out.trans t2.fr); clear t2
    go_wp2_with fail
    refine (few_raw w.heap.size w2 A cap ops (HO.out.later H2.out)).mono ?_
    rintro e w3 ⟨rfl, rfl⟩
    rw [HF.out]
    go_wp2_with fail
    go_ret
    exact ⟨rfl, H2.out⟩
  · have hf' : fewOps ops = true := by simpa using hf
    have hs : 60 < s.size := by
      rcases hbig with h | h
      · exact absurd h hf
      · exact h
    have hs' : (60 : Int) < (s.size : Int) := by omega
    have HF := Lib.hid hf'
    clear hf hf' hbig
    go_enter Try.func7, Try.ntmps7
    go_wp2_with fail
    refine (head_calls w).mono ?_
    rintro e w0 ⟨rfl, hf0⟩
    have H0 := Lib.hid hf0; clear hf0
    go_wp2_with fail
    refine ((Two.start w0).made 3 (by omega) (by omega)).mono ?_
    rintro e w1 ⟨g, rfl, t1⟩
    have H1 := Lib.hid t1; clear t1
    go_wp2_with fail
    refine (H1.out.symm.made 3 (by omega) (by omega)).mono ?_
    rintro e w2 ⟨g2, rfl, t2⟩
    have H2 := Lib.hid (H0.out.trans t2.fr); clear t2
    go_wp2_with fail
    refine (few_raw w.heap.size w2 A cap ops (HO.out.later H2.out)).mono ?_
    rintro e w3 ⟨rfl, rfl⟩
    rw [HF.out]
    go_wp2_with fail
    go_ret
    exact ⟨rfl, H2.out⟩

theorem cutS_ok {N : NetS} {a b : Int} (h : N.ok a b = true) (off : Bool) : N.cutS a b off = (N.setc a b off, 0) := by
  unfold NetS.cutS; rw [h]; simp
theorem send_closed {N : NetS} {a b : Int} (h : N.ok a b = true) (hc : N.cut a b = true) (s : ByteArray) : N.send a b s = (N, 20) := by
  unfold NetS.send; rw [h, hc]; simp
theorem deliver_closed {N : NetS} {a b : Int} (h : N.ok a b = true) (hc : N.cut a b = true) (i : Int) (again : Bool) : N.deliver a b i again = (N, ByteArray.empty, 20) := by
  unfold NetS.deliver; rw [h, hc]; simp
theorem allRows_congr {N M : NetS} (h : N.q = M.q) (m : Nat) : allRows N m = allRows M m := by
  unfold allRows
  congr 1
  funext j
  unfold allRow
  rw [h]

theorem Mine.keepT {w wr w2 : World} {S T : Nat → Prop} {e : TypeId} {v : Value} {xs : List Value} (h : Mine w wr S e v xs) (hT : ∀ k, T k → k < w.heap.size) (hf : Fr T wr w2) : Mine w w2 S e v xs :=
  ⟨ownsRow_fr h.own hf (fun k hk ht => by have := (h.new k hk).1; have := hT k ht; omega), fun k hk => ⟨(h.new k hk).1, (h.new k hk).2.1, Nat.lt_of_lt_of_le (h.new k hk).2.2 hf.size⟩⟩
theorem RowsM.keepT {w wr w2 : World} {S T : Nat → Prop} {V : Value} {rows : List (List ByteArray)} (h : RowsM w wr S V rows) (hT : ∀ k, T k → k < w.heap.size) (hf : Fr T wr w2) : RowsM w w2 S V rows := by
  obtain ⟨vs, h1, h2, h3⟩ := h
  refine ⟨vs, h1, h2.keepT hT hf, fun i hi => ?_⟩
  obtain ⟨A, c, e, hm⟩ := h3 i hi
  exact ⟨A, c, e, hm.keepT hT hf⟩

/-- The rows of one network are told; the other one is yet to be read. -/
def Half (w0 w1 : World) (q : Option Addr) (M : NetS) (A : Option Addr) (rows : List (List ByteArray)) : Prop :=
  ∃ T, NetP w1 q T M ∧ (∀ k, T k → w0.heap.size ≤ k) ∧ Fr (fun _ => False) w0 w1 ∧ ∀ w2, Fr T w1 w2 → RowsR w2 A rows
theorem rows9 {w wr : World} {S : Nat → Prop} {A : Option Addr} {c : Nat} {N : NetS} (h : RowsM w wr S (.slice A 9 c) (allRows N 9)) : RowsR wr A (allRows N 9) := by
  have h9 : (allRows N 9).length = 9 := allRows_length N 9
  exact RowsM.rows (c := c) (by rw [h9]; exact h)
/-- all of one network .. -/
theorem Two.all1 {w0 w : World} {p q : Option Addr} {N M : NetS} (h : Two w0 w p q N M) (hn : N.nodes = 3) :
    Calls Try.prog 19 #[.pointer p] w fun e w' => ∃ A c, e = .returned (.slice A 9 c) ∧ Half w0 w' q M A (allRows N 9) := by
  obtain ⟨S, T, h1, h2, h3, h4, h5, h6⟩ := h
  refine (all_calls h1 hn).mono ?_
  rintro e w' ⟨A, c, rfl, N', S', g1, g2, g3, g4, g5, g6⟩
  exact ⟨A, c, rfl, T, h2.fr g4 (fun k hk hs => h3 k hs hk), h5, h6.trans' g4 (fun k hk hs => by have := h4 k hs; omega), fun w2 hf => rows9 (g6.keepT h2.lt hf)⟩
/-- .. then of the other. -/
theorem Half.all2 {w0 w : World} {q : Option Addr} {M : NetS} {A : Option Addr} {rows : List (List ByteArray)} (h : Half w0 w q M A rows) (hn : M.nodes = 3) :
    Calls Try.prog 19 #[.pointer q] w fun e w' => ∃ B c, e = .returned (.slice B 9 c) ∧ Fr (fun _ => False) w0 w' ∧ RowsR w' A rows ∧ RowsR w' B (allRows M 9) := by
  obtain ⟨T, h1, h2, h3, h4⟩ := h
  refine (all_calls h1 hn).mono ?_
  rintro e w' ⟨B, c, rfl, N', S', g1, g2, g3, g4, g5, g6⟩
  exact ⟨B, c, rfl, h3.trans' g4 (fun k hk hs => by have := h2 k hs; omega), h4 w' g4, rows9 g6⟩
/-- .. and both compared. -/
theorem same9 {w : World} {A B : Option Addr} {ca cb : Nat} {N M : NetS} (ha : RowsR w A (allRows N 9)) (hb : RowsR w B (allRows M 9)) (hq : N.q = M.q) :
    Calls Try.prog 20 #[.slice A 9 ca, .slice B 9 cb] w fun e w' => e = .returned (.bool true) ∧ ∃ n, w' = w.drewN n := by
  have h1 : (allRows N 9).length = 9 := allRows_length N 9
  have h2 : (allRows M 9).length = 9 := allRows_length M 9
  have := same_calls w A B ca cb (allRows N 9) (allRows M 9) ha hb (by omega) (by omega)
  rw [h1, h2, allRows_congr hq] at this
  simpa using this
theorem Two2.box {w0 w : World} {p q : Option Addr} {N M : NetS} {X : Nat} {v0 v1 v2 v3 v4 v5 v6 v7 : Value} (h : Two2 w0 w p q N M [(X, .cells #[v0, v1, v2, v3, v4, v5, v6, v7] 35)]) :
    w.cell? ⟨X, 1, none⟩ = some v1 ∧ w.cell? ⟨X, 2, none⟩ = some v2 := by
  have := h.kept (List.mem_singleton.2 rfl)
  exact ⟨by rw [cell?_bk this]; rfl, by rw [cell?_bk this]; rfl⟩
theorem Two2.two {w0 w : World} {p q : Option Addr} {N M : NetS} {Kp : List (Nat × Obj)} (h : Two2 w0 w p q N M Kp) : Two w0 w p q N M := by
  obtain ⟨S, T, h1, h2, h3, h4, h5, h6, h7⟩ := h
  exact ⟨S, T, h1, h2, h3, h4, h5, h6⟩

set_option maxHeartbeats 2000000 in
set_option maxRecDepth 100000 in
theorem cuts_good (w : World) (A : Option Addr) (cap : Nat) (ops : List OpS) (h : OpsAt w.heap.size w A ops) (a b : Int) (ha : 0 ≤ a ∧ a ≤ 255) (hb : 0 ≤ b ∧ b ≤ 255) (s : ByteArray) (hfew : fewOps ops = true) (hs : s.size ≤ 60) :
    Calls Try.prog 7 #[.slice A ops.length cap, .int .u8 a, .int .u8 b, .string s] w fun e w' => e = .returned (.bool true) ∧ Fr (fun _ => False) w w' := by
  have hlen : ops.length ≤ 80 := by
    unfold fewOps at hfew; rw [Bool.and_eq_true] at hfew; exact of_decide_eq_true hfew.1
  have hs' : (s.size : Int) ≤ 60 := by omega
  have HO := Lib.hid h
  have HF := Lib.hid hfew
  clear h hfew
  go_enter Try.func7, Try.ntmps7
  go_wp2_with fail
  refine (head_calls w).mono ?_
  rintro e w0 ⟨rfl, hf0⟩
  have H0 := Lib.hid hf0; clear hf0
  go_wp2_with fail
  refine ((Two.start w0).made 3 (by omega) (by omega)).mono ?_
  rintro e w1 ⟨g, rfl, t1⟩
  have H1 := Lib.hid t1; clear t1
  go_wp2_with fail
  refine (H1.out.symm.made 3 (by omega) (by omega)).mono ?_
  rintro e w2 ⟨g2, rfl, t2⟩
  have H2 := Lib.hid t2.symm; clear t2
  go_wp2_with fail
  refine (few_raw w.heap.size w2 A cap ops (HO.out.later (H0.out.trans H2.out.fr))).mono ?_
  rintro e w3 ⟨rfl, rfl⟩
  rw [HF.out]
  go_wp2_with fail
  go_loopw [14] (fun i wr => ∃ k : Nat, k ≤ ops.length ∧ i = .int .i64 k ∧ Two w0 wr (some ⟨g, 0, none⟩) (some ⟨g2, 0, none⟩) (runs (NetS.new 3) (ops.take k)) (runs (NetS.new 3) (ops.take k))) (fun i _ => ops.length - (intOf i).toNat)
  case atStart => exact ⟨0, Nat.zero_le _, rfl, H2.out⟩
  case round =>
    obtain ⟨k, hk, rfl, htw⟩ := hrel
    have HW := Lib.hid htw; clear htw
    by_cases hlt : k < ops.length
    · obtain ⟨bb, off, rfl, hbb, c0, c1, c2, c3, c4, c5, c6, c7⟩ := (HO.out.later (H0.out.trans HW.out.fr)).cells k hlt
      go_wp2_with fail
      refine (three_raw (opAt ops k) wr).mono ?_
      rintro e w4 ⟨rfl, hf4⟩
      have H4 := Lib.hid (HW.out.beside hf4); clear hf4 c0 c1 c2 c3 c4 c5 c6 c7
      go_wp2_with fail
      refine (H4.out.run (opAt ops k).three).mono ?_
      rintro e w5 ⟨rfl, h5⟩
      have H5 := Lib.hid h5; clear h5
      obtain ⟨bb2, off2, e2, _, c0, c1, c2, c3, c4, c5, c6, c7⟩ := (HO.out.later (H0.out.trans H5.out.fr)).cells k hlt
      injection e2 with e2; injection e2 with e2 e3
      subst e2; subst e3
      go_wp2_with fail
      refine (three_raw (opAt ops k) w5).mono ?_
      rintro e w6 ⟨rfl, hf6⟩
      have H6 := Lib.hid (H5.out.beside hf6); clear hf6 c0 c1 c2 c3 c4 c5 c6 c7
      go_wp2_with fail
      refine (H6.out.run' (opAt ops k).three).mono ?_
      rintro e w7 ⟨rfl, h7⟩
      have H7 := Lib.hid h7; clear h7
      go_wp2_with fail
      go_roundw
      case rel =>
        refine ⟨k + 1, by omega, by go_num, ?_⟩
        rw [runs_take _ _ _ hlt]; exact H7.out
      case measure => simp [intOf]; omega
    · obtain rfl : k = ops.length := by omega
      rw [List.take_length] at HW
      have hn3 : (runs (NetS.new 3) ops).nodes = 3 := by rw [runs_nodes]; rfl
      have hok := three_ok _ hn3 ⟨0, a, b, 0, 0, 0, ⟨#[]⟩, false⟩
      have hok' := three_ok' _ hn3 ⟨0, a, b, 0, 0, 0, ⟨#[]⟩, false⟩
      generalize hX : runs (NetS.new 3) ops = X at HW hn3 hok hok'
      simp only [OpS.three] at hok hok'
      have HX := Lib.hid (And.intro hn3 (And.intro hok hok'))
      clear hX hn3 hok hok'
      go_wp2_with fail
      refine (three_raw ⟨0, a, b, 0, 0, 0, ⟨#[]⟩, false⟩ wr).mono ?_
      rintro e w4 ⟨rfl, hf4⟩
      have h4 := (HW.out.beside hf4).two2
      have h5 := h4.keep (.cells #[.int .i64 0, .int .i64 (a % 3), .int .i64 ((a % 3 + 1 + b % 2) % 3), .int .i64 0, .int .i64 0, .int .i64 0, .string ⟨#[]⟩, .bool false] 35)
      have H5 := Lib.hid h5
      clear hf4 h4 h5
      rw [show opC (OpS.three ⟨0, a, b, 0, 0, 0, ⟨#[]⟩, false⟩) = #[.int .i64 0, .int .i64 (a % 3), .int .i64 ((a % 3 + 1 + b % 2) % 3), .int .i64 0, .int .i64 0, .int .i64 0, .string ⟨#[]⟩, .bool false] from rfl]
      go_wp2_with fail
      refine (H5.out.step fun S hS => by
        have := cut_calls hS (a % 3) ((a % 3 + 1 + b % 2) % 3) true
        rw [cutS_ok HX.out.2.1] at this; exact this).mono ?_
      rintro e x5 ⟨rfl, hx⟩
      have H6 := Lib.hid hx; clear hx
      have hc1 : (X.setc (a % 3) ((a % 3 + 1 + b % 2) % 3) true).cut (a % 3) ((a % 3 + 1 + b % 2) % 3) = true := by simp [NetS.setc]
      have hc2 : (X.setc (a % 3) ((a % 3 + 1 + b % 2) % 3) true).cut ((a % 3 + 1 + b % 2) % 3) (a % 3) = true := by simp [NetS.setc]
      have HC := Lib.hid (And.intro hc1 hc2)
      clear hc1 hc2
      obtain ⟨d1, d2⟩ := H6.out.box
      go_wp2_with fail
      clear d1 d2
      refine (H6.out.step fun S hS => by
        have := send_calls hS (a % 3) ((a % 3 + 1 + b % 2) % 3) s
        rw [send_closed (N := X.setc (a % 3) ((a % 3 + 1 + b % 2) % 3) true) HX.out.2.1 HC.out.1] at this; exact this).mono ?_
      rintro e x6 ⟨rfl, hx⟩
      have H7 := Lib.hid hx; clear hx
      obtain ⟨d1, d2⟩ := H7.out.box
      go_wp2_with fail
      clear d1 d2
      refine (H7.out.step fun S hS => by
        have := send_calls hS ((a % 3 + 1 + b % 2) % 3) (a % 3) s
        rw [send_closed (N := X.setc (a % 3) ((a % 3 + 1 + b % 2) % 3) true) HX.out.2.2 HC.out.2] at this; exact this).mono ?_
      rintro e x7 ⟨rfl, hx⟩
      have H8 := Lib.hid hx; clear hx
      obtain ⟨d1, d2⟩ := H8.out.box
      go_wp2_with fail
      clear d1 d2
      refine (H8.out.step fun S hS => by
        have := deliver_calls hS (a % 3) ((a % 3 + 1 + b % 2) % 3) 0 false
        rw [deliver_closed (N := X.setc (a % 3) ((a % 3 + 1 + b % 2) % 3) true) HX.out.2.1 HC.out.1] at this; exact this).mono ?_
      rintro e x8 ⟨rfl, hx⟩
      have H9 := Lib.hid hx; clear hx
      obtain ⟨d1, d2⟩ := H9.out.box
      go_wp2_with fail
      clear d1 d2
      refine (H9.out.step fun S hS => by
        have := deliver_calls hS ((a % 3 + 1 + b % 2) % 3) (a % 3) 0 true
        rw [deliver_closed (N := X.setc (a % 3) ((a % 3 + 1 + b % 2) % 3) true) HX.out.2.2 HC.out.2] at this; exact this).mono ?_
      rintro e x9 ⟨rfl, hx⟩
      have H10 := Lib.hid hx; clear hx
      obtain ⟨d1, d2⟩ := H10.out.box
      go_wp2_with fail
      clear d1 d2
      refine (H10.out.two.all1 HX.out.1).mono ?_
      rintro e y1 ⟨A1, k1, rfl, hh⟩
      have HH := Lib.hid hh; clear hh
      go_wp2_with fail
      refine (HH.out.all2 HX.out.1).mono ?_
      rintro e y2 ⟨A2, k2, rfl, hfr, hra, hrb⟩
      have HR := Lib.hid (And.intro hfr (And.intro hra hrb)); clear hfr hra hrb
      go_wp2_with fail
      refine (same9 HR.out.2.1 HR.out.2.2 rfl).mono ?_
      rintro e y3 ⟨rfl, n, rfl⟩
      go_wp2_with fail
      go_ret
      exact ⟨rfl, (H0.out.trans HR.out.1).drewN n⟩

/-- NetCuts, whatever the arguments. -/
theorem cuts_walk (w : World) (A : Option Addr) (cap : Nat) (ops : List OpS) (h : OpsAt w.heap.size w A ops) (a b : Int) (ha : 0 ≤ a ∧ a ≤ 255) (hb : 0 ≤ b ∧ b ≤ 255) (s : ByteArray) :
    Calls Try.prog 7 #[.slice A ops.length cap, .int .u8 a, .int .u8 b, .string s] w fun e w' => e = .returned (.bool true) ∧ Below w.heap.size w w' := by
  have hb' : ∀ {w w' : World}, Fr (fun _ => False) w w' → Below w.heap.size w w' := fun h => h.below _ (Nat.le_refl _) (fun _ h => h.elim)
  by_cases hf : fewOps ops = true
  · by_cases hs : s.size ≤ 60
    · exact (cuts_good w A cap ops h a b ha hb s hf hs).mono fun e w' hh => ⟨hh.1, hb' hh.2⟩
    · exact (cuts_big w A cap ops h a b ha hb s (.inr (by omega))).mono fun e w' hh => ⟨hh.1, hb' hh.2⟩
  · exact (cuts_big w A cap ops h a b ha hb s (.inl (by simpa using hf))).mono fun e w' hh => ⟨hh.1, hb' hh.2⟩
end Go.Proofs.Ytamjclpopkfhmaa
