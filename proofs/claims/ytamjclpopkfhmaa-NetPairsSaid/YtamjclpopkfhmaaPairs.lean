/-
The walk of NetPairs.
-/
import Derived.Test.YtamjclpopkfhmaaBut
import Derived.Test.YtamjclpopkfhmaaOpen
set_option linter.unusedVariables false
set_option linter.unusedSimpArgs false
namespace Go.Proofs.Ytamjclpopkfhmaa
open Go.RowKit Go.NetKit

theorem Two2.run {w0 w : World} {p q : Option Addr} {N M : NetS} {Kp : List (Nat × Obj)} (h : Two2 w0 w p q N M Kp) (o : OpS) :
    Calls Try.prog 13 #[.pointer p, .agg (opC o)] w fun e w' => e = .returned (.tuple #[.string (o.run N).2.1, .int .i64 (o.run N).2.2.1, .int .i64 (o.run N).2.2.2]) ∧ Two2 w0 w' p q (o.run N).1 M Kp :=
  h.step fun _ hS => do_raw hS o
theorem Two2.run' {w0 w : World} {p q : Option Addr} {N M : NetS} {Kp : List (Nat × Obj)} (h : Two2 w0 w p q N M Kp) (o : OpS) :
    Calls Try.prog 13 #[.pointer q, .agg (opC o)] w fun e w' => e = .returned (.tuple #[.string (o.run M).2.1, .int .i64 (o.run M).2.2.1, .int .i64 (o.run M).2.2.2]) ∧ Two2 w0 w' p q N (o.run M).1 Kp :=
  h.step' fun _ hS => do_raw hS o

/-- The cells of an operation in a box. -/
theorem box_cells {w : World} {X : Nat} {o : OpS} (h : bk w X = some (.cells (opC o) 35)) :
    w.cell? ⟨X, 0, none⟩ = some (.int .i64 o.kind) ∧ w.cell? ⟨X, 1, none⟩ = some (.int .i64 o.a) ∧ w.cell? ⟨X, 2, none⟩ = some (.int .i64 o.b) ∧ w.cell? ⟨X, 3, none⟩ = some (.int .i64 o.idx) ∧
    w.cell? ⟨X, 4, none⟩ = some (.int .i64 o.at_) ∧ w.cell? ⟨X, 5, none⟩ = some (.int .i64 o.mask) ∧ w.cell? ⟨X, 6, none⟩ = some (.string o.text) ∧ w.cell? ⟨X, 7, none⟩ = some (.bool o.flag) := by
  refine ⟨?_, ?_, ?_, ?_, ?_, ?_, ?_, ?_⟩ <;> (rw [cell?_bk h]; rfl)

/-- Both networks are read, row by row; the boxes are kept. -/
structure Read2 (w0 w : World) (Kp : List (Nat × Obj)) (A : Option Addr) (ca : Nat) (ra : List (List ByteArray)) (B : Option Addr) (cb : Nat) (rb : List (List ByteArray)) : Prop where
  fr : Fr (fun _ => False) w0 w
  kp : ∀ e ∈ Kp, bk w e.1 = some e.2
  rows : ∃ wa Sa wb Sb, RowsM wa w Sa (.slice A 9 ca) ra ∧ RowsM wb w Sb (.slice B 9 cb) rb ∧ w0.heap.size ≤ wa.heap.size ∧ w0.heap.size ≤ wb.heap.size ∧ (∀ k, (Value.slice A 9 ca).ownBlock = some k → ¬ (Value.slice B 9 cb).ownBlock = some k)

def Half2 (w0 w1 : World) (q : Option Addr) (M : NetS) (Kp : List (Nat × Obj)) (A : Option Addr) (c : Nat) (rows : List (List ByteArray)) : Prop :=
  ∃ T wa Sa, NetP w1 q T M ∧ (∀ k, T k → w0.heap.size ≤ k) ∧ Fr (fun _ => False) w0 w1 ∧ (∀ e ∈ Kp, bk w1 e.1 = some e.2 ∧ ¬ T e.1) ∧ RowsM wa w1 Sa (.slice A 9 c) rows ∧ (∀ k, T k → k < wa.heap.size) ∧ w0.heap.size ≤ wa.heap.size

theorem Two2.all1 {w0 w : World} {p q : Option Addr} {N M : NetS} {Kp : List (Nat × Obj)} (h : Two2 w0 w p q N M Kp) (hn : N.nodes = 3) :
    Calls Try.prog 19 #[.pointer p] w fun e w' => ∃ A c, e = .returned (.slice A 9 c) ∧ Half2 w0 w' q M Kp A c (allRows N 9) := by
  obtain ⟨S, T, h1, h2, h3, h4, h5, h6, h7⟩ := h
  refine (all_calls h1 hn).mono ?_
  rintro e w' ⟨A, c, rfl, N', S', g1, g2, g3, g4, g5, g6⟩
  exact ⟨A, c, rfl, T, w, S', h2.fr g4 (fun k hk hs => h3 k hs hk), h5, h6.trans' g4 (fun k hk hs => by have := h4 k hs; omega), fun e he => ⟨g4.bk (h7 e he).1 (h7 e he).2.1, (h7 e he).2.2⟩, g6, h2.lt, h6.size⟩
theorem Half2.all2 {w0 w : World} {q : Option Addr} {M : NetS} {Kp : List (Nat × Obj)} {A : Option Addr} {ca : Nat} {ra : List (List ByteArray)} (h : Half2 w0 w q M Kp A ca ra) (hn : M.nodes = 3) :
    Calls Try.prog 19 #[.pointer q] w fun e w' => ∃ B cb, e = .returned (.slice B 9 cb) ∧ Read2 w0 w' Kp A ca ra B cb (allRows M 9) := by
  obtain ⟨T, wa, Sa, h1, h2, h3, h4, h5, h6, h7⟩ := h
  refine (all_calls h1 hn).mono ?_
  rintro e w' ⟨B, c, rfl, N', S', g1, g2, g3, g4, g5, g6⟩
  refine ⟨B, c, rfl, h3.trans' g4 (fun k hk hs => by have := h2 k hs; omega), fun e he => g4.bk (h4 e he).1 (h4 e he).2, wa, Sa, w, S', h5.keepT h6 g4, g6, h7, h3.size, ?_⟩
  intro k hk hb
  obtain ⟨vs, _, hm, _⟩ := h5
  obtain ⟨vs', _, hm', _⟩ := g6
  have := (hm.new k hk).2.2
  have := (hm'.new k hb).1
  omega

theorem pick_ok (a b : Int) (x y : Nat) (hx : a % 3 = x) (hy : (a % 3 + 1 + b % 2) % 3 = y) : x < 3 ∧ y < 3 ∧ opC (OpS.three ⟨0, a, b, 0, 0, 0, ⟨#[]⟩, false⟩) = opC ⟨0, x, y, 0, 0, 0, ⟨#[]⟩, false⟩ := by
  refine ⟨by omega, by omega, ?_⟩
  unfold OpS.three
  simp only [hx, hy]
  rw [hx] at hy
  rw [hy]

set_option maxHeartbeats 4000000 in
set_option maxRecDepth 100000 in
theorem pairs_good (w : World) (A : Option Addr) (cap : Nat) (ops : List OpS) (h : OpsAt w.heap.size w A ops) (a b : Int) (ha : 0 ≤ a ∧ a ≤ 255) (hb : 0 ≤ b ∧ b ≤ 255) (hfew : fewOps ops = true) :
    Calls Try.prog 6 #[.slice A ops.length cap, .int .u8 a, .int .u8 b] w fun e w' => e = .returned (.bool true) ∧ Fr (fun _ => False) w w' := by
  have hlen : ops.length ≤ 80 := by
    unfold fewOps at hfew; rw [Bool.and_eq_true] at hfew; exact of_decide_eq_true hfew.1
  obtain ⟨x, hx⟩ := Int.eq_ofNat_of_zero_le (show 0 ≤ a % 3 by omega)
  obtain ⟨y, hy⟩ := Int.eq_ofNat_of_zero_le (show 0 ≤ (a % 3 + 1 + b % 2) % 3 by omega)
  have HPK := Lib.hid (pick_ok a b x y hx hy)
  have HO := Lib.hid h
  have HF := Lib.hid hfew
  clear h hfew hx hy
  go_enter Try.func6, Try.ntmps6
  go_wp2_with fail
  refine (head_calls w).mono ?_
  rintro e w0 ⟨rfl, hf0⟩
  have H0 := Lib.hid hf0; clear hf0
  go_wp2_with fail
  refine ((Two.start w0).made 3 (by omega) (by omega)).mono ?_
  rintro e w1 ⟨g, rfl, t1⟩
  have H1 := Lib.hid t1; clear t1
  go_wp2_with fail
  refine (H1.out.symm.made 3 (by omega) (by omega)).mono ?_
  rintro e w2 ⟨g2, rfl, t2⟩
  have H2 := Lib.hid t2.symm; clear t2
  go_wp2_with fail
  refine (few_raw w.heap.size w2 A cap ops (HO.out.later (H0.out.trans H2.out.fr))).mono ?_
  rintro e w3 ⟨rfl, rfl⟩
  rw [HF.out]
  go_wp2_with fail
  refine (three_raw ⟨0, a, b, 0, 0, 0, ⟨#[]⟩, false⟩ w3).mono ?_
  rintro e w4 ⟨rfl, hf4⟩
  rw [HPK.out.2.2]
  have h5 := (H2.out.beside hf4).two2.keep (.cells (opC ⟨0, x, y, 0, 0, 0, ⟨#[]⟩, false⟩) 35)
  have H5 := Lib.hid h5
  clear hf4 h5
  rw [show opC ⟨0, (x : Int), (y : Int), 0, 0, 0, ⟨#[]⟩, false⟩ = #[.int .i64 0, .int .i64 x, .int .i64 y, .int .i64 0, .int .i64 0, .int .i64 0, .string ⟨#[]⟩, .bool false] from rfl]
  go_wp2_with fail
  go_loopw [13] (fun i wr => ∃ k : Nat, k ≤ ops.length ∧ i = .int .i64 k ∧ ∃ N M, But x y N M ∧ Two2 w0 wr (some ⟨g, 0, none⟩) (some ⟨g2, 0, none⟩) N M [(w4.heap.size, .cells (opC ⟨0, x, y, 0, 0, 0, ⟨#[]⟩, false⟩) 35)]) (fun i _ => ops.length - (intOf i).toNat)
  case atStart => exact ⟨0, Nat.zero_le _, rfl, NetS.new 3, NetS.new 3, ⟨rfl, rfl, fun _ _ _ => rfl, rfl⟩, H5.out⟩
  case round =>
    obtain ⟨k, hk, rfl, N, M, hbut, htw⟩ := hrel
    have HW := Lib.hid htw
    have HB := Lib.hid hbut
    clear htw hbut
    by_cases hlt : k < ops.length
    · obtain ⟨bb, off, rfl, hbb, c0, c1, c2, c3, c4, c5, c6, c7⟩ := (HO.out.later (H0.out.trans HW.out.fr)).cells k hlt
      go_wp2_with fail
      refine (three_raw (opAt ops k) wr).mono ?_
      rintro e w5 ⟨rfl, hf5⟩
      generalize (opAt ops k).three = o
      have H6 := Lib.hid ((HW.out.beside hf5).keep (.cells (opC o) 35))
      clear hf5 c0 c1 c2 c3 c4 c5 c6 c7
      rw [show opC o = #[.int .i64 o.kind, .int .i64 o.a, .int .i64 o.b, .int .i64 o.idx, .int .i64 o.at_, .int .i64 o.mask, .string o.text, .bool o.flag] from rfl]
      go_wp2_with fail
      refine (H6.out.run o).mono ?_
      rintro e w6 ⟨rfl, h7⟩
      have H7 := Lib.hid h7; clear h7
      have bx := box_cells (H7.out.kept (List.mem_cons_self ..))
      obtain ⟨c0, c1, c2, c3, c4, c5, c6, c7⟩ := bx
      have bx := box_cells (H7.out.kept (List.mem_cons_of_mem _ (List.mem_cons_self ..)))
      obtain ⟨_, d1, d2, _⟩ := bx
      by_cases hk4 : o.kind = 4
      · have e4 : (o.kind == 4) = true := by simp [hk4]
        have HC := Lib.hid (show o.kind = 4 ∨ ¬ (o.a = x ∧ o.b = y) from .inl hk4)
        clear hk4
        by_cases ta : o.a = (y : Int)
        · have tat : (o.a == ((y : Int) : Int)) = true := by simp [ta]
          clear ta
          by_cases tb : o.b = (x : Int)
          · have tbt : (o.b == ((x : Int) : Int)) = true := by simp [tb]
            clear tb
            by_cases tc : o.a = (x : Int)
            · have tct : (o.a == ((x : Int) : Int)) = true := by simp [tc]
              clear tc
              by_cases td : o.b = (y : Int)
              · have tdt : (o.b == ((y : Int) : Int)) = true := by simp [td]
                clear td
                go_wp2_with fail
                refine (H7.out.run' o).mono ?_
                rintro e w7 ⟨rfl, h8⟩
                have H8 := Lib.hid (h8.less (Kp' := [(w4.heap.size, .cells (opC ⟨0, x, y, 0, 0, 0, ⟨#[]⟩, false⟩) 35)]) (fun e he => List.mem_cons_of_mem _ he))
                clear h8 c0 c1 c2 c3 c4 c5 c6 c7 d1 d2
                go_wp2_with fail
                go_roundw
                case rel => exact ⟨k + 1, by omega, by go_num, _, _, HB.out.both o HC.out, H8.out⟩
                case measure => simp [intOf]; omega

              · have tdf : (o.b == ((y : Int) : Int)) = false := by simp [td]
                clear td
                go_wp2_with fail
                refine (H7.out.run' o).mono ?_
                rintro e w7 ⟨rfl, h8⟩
                have H8 := Lib.hid (h8.less (Kp' := [(w4.heap.size, .cells (opC ⟨0, x, y, 0, 0, 0, ⟨#[]⟩, false⟩) 35)]) (fun e he => List.mem_cons_of_mem _ he))
                clear h8 c0 c1 c2 c3 c4 c5 c6 c7 d1 d2
                go_wp2_with fail
                go_roundw
                case rel => exact ⟨k + 1, by omega, by go_num, _, _, HB.out.both o HC.out, H8.out⟩
                case measure => simp [intOf]; omega

            · have tcf : (o.a == ((x : Int) : Int)) = false := by simp [tc]
              clear tc
              by_cases td : o.b = (y : Int)
              · have tdt : (o.b == ((y : Int) : Int)) = true := by simp [td]
                clear td
                go_wp2_with fail
                refine (H7.out.run' o).mono ?_
                rintro e w7 ⟨rfl, h8⟩
                have H8 := Lib.hid (h8.less (Kp' := [(w4.heap.size, .cells (opC ⟨0, x, y, 0, 0, 0, ⟨#[]⟩, false⟩) 35)]) (fun e he => List.mem_cons_of_mem _ he))
                clear h8 c0 c1 c2 c3 c4 c5 c6 c7 d1 d2
                go_wp2_with fail
                go_roundw
                case rel => exact ⟨k + 1, by omega, by go_num, _, _, HB.out.both o HC.out, H8.out⟩
                case measure => simp [intOf]; omega

              · have tdf : (o.b == ((y : Int) : Int)) = false := by simp [td]
                clear td
                go_wp2_with fail
                refine (H7.out.run' o).mono ?_
                rintro e w7 ⟨rfl, h8⟩
                have H8 := Lib.hid (h8.less (Kp' := [(w4.heap.size, .cells (opC ⟨0, x, y, 0, 0, 0, ⟨#[]⟩, false⟩) 35)]) (fun e he => List.mem_cons_of_mem _ he))
                clear h8 c0 c1 c2 c3 c4 c5 c6 c7 d1 d2
                go_wp2_with fail
                go_roundw
                case rel => exact ⟨k + 1, by omega, by go_num, _, _, HB.out.both o HC.out, H8.out⟩
                case measure => simp [intOf]; omega

          · have tbf : (o.b == ((x : Int) : Int)) = false := by simp [tb]
            clear tb
            by_cases tc : o.a = (x : Int)
            · have tct : (o.a == ((x : Int) : Int)) = true := by simp [tc]
              clear tc
              by_cases td : o.b = (y : Int)
              · have tdt : (o.b == ((y : Int) : Int)) = true := by simp [td]
                clear td
                go_wp2_with fail
                refine (H7.out.run' o).mono ?_
                rintro e w7 ⟨rfl, h8⟩
                have H8 := Lib.hid (h8.less (Kp' := [(w4.heap.size, .cells (opC ⟨0, x, y, 0, 0, 0, ⟨#[]⟩, false⟩) 35)]) (fun e he => List.mem_cons_of_mem _ he))
                clear h8 c0 c1 c2 c3 c4 c5 c6 c7 d1 d2
                go_wp2_with fail
                go_roundw
                case rel => exact ⟨k + 1, by omega, by go_num, _, _, HB.out.both o HC.out, H8.out⟩
                case measure => simp [intOf]; omega

              · have tdf : (o.b == ((y : Int) : Int)) = false := by simp [td]
                clear td
                go_wp2_with fail
                refine (H7.out.run' o).mono ?_
                rintro e w7 ⟨rfl, h8⟩
                have H8 := Lib.hid (h8.less (Kp' := [(w4.heap.size, .cells (opC ⟨0, x, y, 0, 0, 0, ⟨#[]⟩, false⟩) 35)]) (fun e he => List.mem_cons_of_mem _ he))
                clear h8 c0 c1 c2 c3 c4 c5 c6 c7 d1 d2
                go_wp2_with fail
                go_roundw
                case rel => exact ⟨k + 1, by omega, by go_num, _, _, HB.out.both o HC.out, H8.out⟩
                case measure => simp [intOf]; omega

            · have tcf : (o.a == ((x : Int) : Int)) = false := by simp [tc]
              clear tc
              by_cases td : o.b = (y : Int)
              · have tdt : (o.b == ((y : Int) : Int)) = true := by simp [td]
                clear td
                go_wp2_with fail
                refine (H7.out.run' o).mono ?_
                rintro e w7 ⟨rfl, h8⟩
                have H8 := Lib.hid (h8.less (Kp' := [(w4.heap.size, .cells (opC ⟨0, x, y, 0, 0, 0, ⟨#[]⟩, false⟩) 35)]) (fun e he => List.mem_cons_of_mem _ he))
                clear h8 c0 c1 c2 c3 c4 c5 c6 c7 d1 d2
                go_wp2_with fail
                go_roundw
                case rel => exact ⟨k + 1, by omega, by go_num, _, _, HB.out.both o HC.out, H8.out⟩
                case measure => simp [intOf]; omega

              · have tdf : (o.b == ((y : Int) : Int)) = false := by simp [td]
                clear td
                go_wp2_with fail
                refine (H7.out.run' o).mono ?_
                rintro e w7 ⟨rfl, h8⟩
                have H8 := Lib.hid (h8.less (Kp' := [(w4.heap.size, .cells (opC ⟨0, x, y, 0, 0, 0, ⟨#[]⟩, false⟩) 35)]) (fun e he => List.mem_cons_of_mem _ he))
                clear h8 c0 c1 c2 c3 c4 c5 c6 c7 d1 d2
                go_wp2_with fail
                go_roundw
                case rel => exact ⟨k + 1, by omega, by go_num, _, _, HB.out.both o HC.out, H8.out⟩
                case measure => simp [intOf]; omega

        · have taf : (o.a == ((y : Int) : Int)) = false := by simp [ta]
          clear ta
          by_cases tb : o.b = (x : Int)
          · have tbt : (o.b == ((x : Int) : Int)) = true := by simp [tb]
            clear tb
            by_cases tc : o.a = (x : Int)
            · have tct : (o.a == ((x : Int) : Int)) = true := by simp [tc]
              clear tc
              by_cases td : o.b = (y : Int)
              · have tdt : (o.b == ((y : Int) : Int)) = true := by simp [td]
                clear td
                go_wp2_with fail
                refine (H7.out.run' o).mono ?_
                rintro e w7 ⟨rfl, h8⟩
                have H8 := Lib.hid (h8.less (Kp' := [(w4.heap.size, .cells (opC ⟨0, x, y, 0, 0, 0, ⟨#[]⟩, false⟩) 35)]) (fun e he => List.mem_cons_of_mem _ he))
                clear h8 c0 c1 c2 c3 c4 c5 c6 c7 d1 d2
                go_wp2_with fail
                go_roundw
                case rel => exact ⟨k + 1, by omega, by go_num, _, _, HB.out.both o HC.out, H8.out⟩
                case measure => simp [intOf]; omega

              · have tdf : (o.b == ((y : Int) : Int)) = false := by simp [td]
                clear td
                go_wp2_with fail
                refine (H7.out.run' o).mono ?_
                rintro e w7 ⟨rfl, h8⟩
                have H8 := Lib.hid (h8.less (Kp' := [(w4.heap.size, .cells (opC ⟨0, x, y, 0, 0, 0, ⟨#[]⟩, false⟩) 35)]) (fun e he => List.mem_cons_of_mem _ he))
                clear h8 c0 c1 c2 c3 c4 c5 c6 c7 d1 d2
                go_wp2_with fail
                go_roundw
                case rel => exact ⟨k + 1, by omega, by go_num, _, _, HB.out.both o HC.out, H8.out⟩
                case measure => simp [intOf]; omega

            · have tcf : (o.a == ((x : Int) : Int)) = false := by simp [tc]
              clear tc
              by_cases td : o.b = (y : Int)
              · have tdt : (o.b == ((y : Int) : Int)) = true := by simp [td]
                clear td
                go_wp2_with fail
                refine (H7.out.run' o).mono ?_
                rintro e w7 ⟨rfl, h8⟩
                have H8 := Lib.hid (h8.less (Kp' := [(w4.heap.size, .cells (opC ⟨0, x, y, 0, 0, 0, ⟨#[]⟩, false⟩) 35)]) (fun e he => List.mem_cons_of_mem _ he))
                clear h8 c0 c1 c2 c3 c4 c5 c6 c7 d1 d2
                go_wp2_with fail
                go_roundw
                case rel => exact ⟨k + 1, by omega, by go_num, _, _, HB.out.both o HC.out, H8.out⟩
                case measure => simp [intOf]; omega

              · have tdf : (o.b == ((y : Int) : Int)) = false := by simp [td]
                clear td
                go_wp2_with fail
                refine (H7.out.run' o).mono ?_
                rintro e w7 ⟨rfl, h8⟩
                have H8 := Lib.hid (h8.less (Kp' := [(w4.heap.size, .cells (opC ⟨0, x, y, 0, 0, 0, ⟨#[]⟩, false⟩) 35)]) (fun e he => List.mem_cons_of_mem _ he))
                clear h8 c0 c1 c2 c3 c4 c5 c6 c7 d1 d2
                go_wp2_with fail
                go_roundw
                case rel => exact ⟨k + 1, by omega, by go_num, _, _, HB.out.both o HC.out, H8.out⟩
                case measure => simp [intOf]; omega

          · have tbf : (o.b == ((x : Int) : Int)) = false := by simp [tb]
            clear tb
            by_cases tc : o.a = (x : Int)
            · have tct : (o.a == ((x : Int) : Int)) = true := by simp [tc]
              clear tc
              by_cases td : o.b = (y : Int)
              · have tdt : (o.b == ((y : Int) : Int)) = true := by simp [td]
                clear td
                go_wp2_with fail
                refine (H7.out.run' o).mono ?_
                rintro e w7 ⟨rfl, h8⟩
                have H8 := Lib.hid (h8.less (Kp' := [(w4.heap.size, .cells (opC ⟨0, x, y, 0, 0, 0, ⟨#[]⟩, false⟩) 35)]) (fun e he => List.mem_cons_of_mem _ he))
                clear h8 c0 c1 c2 c3 c4 c5 c6 c7 d1 d2
                go_wp2_with fail
                go_roundw
                case rel => exact ⟨k + 1, by omega, by go_num, _, _, HB.out.both o HC.out, H8.out⟩
                case measure => simp [intOf]; omega

              · have tdf : (o.b == ((y : Int) : Int)) = false := by simp [td]
                clear td
                go_wp2_with fail
                refine (H7.out.run' o).mono ?_
                rintro e w7 ⟨rfl, h8⟩
                have H8 := Lib.hid (h8.less (Kp' := [(w4.heap.size, .cells (opC ⟨0, x, y, 0, 0, 0, ⟨#[]⟩, false⟩) 35)]) (fun e he => List.mem_cons_of_mem _ he))
                clear h8 c0 c1 c2 c3 c4 c5 c6 c7 d1 d2
                go_wp2_with fail
                go_roundw
                case rel => exact ⟨k + 1, by omega, by go_num, _, _, HB.out.both o HC.out, H8.out⟩
                case measure => simp [intOf]; omega

            · have tcf : (o.a == ((x : Int) : Int)) = false := by simp [tc]
              clear tc
              by_cases td : o.b = (y : Int)
              · have tdt : (o.b == ((y : Int) : Int)) = true := by simp [td]
                clear td
                go_wp2_with fail
                refine (H7.out.run' o).mono ?_
                rintro e w7 ⟨rfl, h8⟩
                have H8 := Lib.hid (h8.less (Kp' := [(w4.heap.size, .cells (opC ⟨0, x, y, 0, 0, 0, ⟨#[]⟩, false⟩) 35)]) (fun e he => List.mem_cons_of_mem _ he))
                clear h8 c0 c1 c2 c3 c4 c5 c6 c7 d1 d2
                go_wp2_with fail
                go_roundw
                case rel => exact ⟨k + 1, by omega, by go_num, _, _, HB.out.both o HC.out, H8.out⟩
                case measure => simp [intOf]; omega

              · have tdf : (o.b == ((y : Int) : Int)) = false := by simp [td]
                clear td
                go_wp2_with fail
                refine (H7.out.run' o).mono ?_
                rintro e w7 ⟨rfl, h8⟩
                have H8 := Lib.hid (h8.less (Kp' := [(w4.heap.size, .cells (opC ⟨0, x, y, 0, 0, 0, ⟨#[]⟩, false⟩) 35)]) (fun e he => List.mem_cons_of_mem _ he))
                clear h8 c0 c1 c2 c3 c4 c5 c6 c7 d1 d2
                go_wp2_with fail
                go_roundw
                case rel => exact ⟨k + 1, by omega, by go_num, _, _, HB.out.both o HC.out, H8.out⟩
                case measure => simp [intOf]; omega

      · have e4 : (o.kind == 4) = false := by simp [hk4]
        have HK4 := Lib.hid hk4
        clear hk4
        by_cases tc : o.a = (x : Int)
        · have tct : (o.a == (x : Int)) = true := by simp [tc]
          by_cases td : o.b = (y : Int)
          · have tdt : (o.b == (y : Int)) = true := by simp [td]
            have HC := Lib.hid (show But x y (o.run N).1 M from by
              have := HB.out
              rw [← tc, ← td] at this ⊢
              exact this.one o HK4.out)
            clear tc td
            have H8 := Lib.hid (H7.out.less (Kp' := [(w4.heap.size, .cells (opC ⟨0, x, y, 0, 0, 0, ⟨#[]⟩, false⟩) 35)]) (fun e he => List.mem_cons_of_mem _ he))
            go_wp2_with fail
            go_roundw
            case rel => exact ⟨k + 1, by omega, by go_num, _, _, HC.out, H8.out⟩
            case measure => simp [intOf]; omega

          · have tdf : (o.b == (y : Int)) = false := by simp [td]
            have HC := Lib.hid (show o.kind = 4 ∨ ¬ (o.a = x ∧ o.b = y) from .inr (fun e => td e.2))
            clear tc td
            go_wp2_with fail
            refine (H7.out.run' o).mono ?_
            rintro e w7 ⟨rfl, h8⟩
            have H8 := Lib.hid (h8.less (Kp' := [(w4.heap.size, .cells (opC ⟨0, x, y, 0, 0, 0, ⟨#[]⟩, false⟩) 35)]) (fun e he => List.mem_cons_of_mem _ he))
            clear h8 c0 c1 c2 c3 c4 c5 c6 c7 d1 d2
            go_wp2_with fail
            go_roundw
            case rel => exact ⟨k + 1, by omega, by go_num, _, _, HB.out.both o HC.out, H8.out⟩
            case measure => simp [intOf]; omega

        · have tcf : (o.a == (x : Int)) = false := by simp [tc]
          have HC := Lib.hid (show o.kind = 4 ∨ ¬ (o.a = x ∧ o.b = y) from .inr (fun e => tc e.1))
          clear tc
          go_wp2_with fail
          refine (H7.out.run' o).mono ?_
          rintro e w7 ⟨rfl, h8⟩
          have H8 := Lib.hid (h8.less (Kp' := [(w4.heap.size, .cells (opC ⟨0, x, y, 0, 0, 0, ⟨#[]⟩, false⟩) 35)]) (fun e he => List.mem_cons_of_mem _ he))
          clear h8 c0 c1 c2 c3 c4 c5 c6 c7 d1 d2
          go_wp2_with fail
          go_roundw
          case rel => exact ⟨k + 1, by omega, by go_num, _, _, HB.out.both o HC.out, H8.out⟩
          case measure => simp [intOf]; omega

    · obtain rfl : k = ops.length := by omega
      clear hlt hk
      go_wp2_with fail
      refine (HW.out.all1 HB.out.n3).mono ?_
      rintro e y1 ⟨A1, k1, rfl, hh⟩
      have HH := Lib.hid hh; clear hh
      go_wp2_with fail
      refine (HH.out.all2 HB.out.m3).mono ?_
      rintro e y2 ⟨A2, k2, rfl, hrd⟩
      have bx := box_cells (hrd.kp _ (List.mem_singleton.2 rfl))
      obtain ⟨_, d1, d2, _⟩ := bx
      obtain ⟨wa, Sa, wb, Sb, ra, rb, z1, z2, z3⟩ := hrd.rows
      have hxy := HPK.out
      have hx3 : x < 3 := hxy.1
      have hy3 : y < 3 := hxy.2.1
      obtain ⟨ba, cura, rfl, q1, q2, q3, q4, ⟨Bj, mj, cj, q5⟩, q6⟩ := ra.strike (allRows_length N 9).symm (3 * x + y) (by omega)
      obtain ⟨bb, curb, rfl, p1, p2, p3, p4, ⟨Bj', mj', cj', p5⟩, _⟩ := rb.strike (allRows_length M 9).symm (3 * x + y) (by omega)
      have hne : ¬ ba = bb := fun e => z3 ba rfl (by rw [e]; rfl)
      have hrb := rb.other q1 (fun e => hne (by injection e with e; exact e.symm)) (3 * x + y) (.slice none 0 0)
      obtain ⟨bb', _, e2, o1, _, _, _, _, o6⟩ := hrb.strike (allRows_length M 9).symm (3 * x + y) (by omega)
      injection e2 with e2; injection e2 with e2
      subst e2
      have hra := q6.other o1 (fun e => hne (by injection e)) (3 * x + y) (.slice none 0 0)
      have hr1 := RowsM.rows (c := k1) (rows := (allRows N 9).set (3 * x + y) []) (by rw [List.length_set, allRows_length]; exact hra)
      have hr2 := RowsM.rows (c := k2) (rows := (allRows M 9).set (3 * x + y) []) (by rw [List.length_set, allRows_length]; exact o6)
      have hfr : Fr (fun _ => False) w0 ((y2.setCell ⟨ba, 3 * x + y, none⟩ (.slice none 0 0)).setCell ⟨bb, 3 * x + y, none⟩ (.slice none 0 0)) :=
        (hrd.fr.setCell (p := ⟨ba, 3 * x + y, none⟩) (fun h => by simp only at h; omega) _).setCell (p := ⟨bb, 3 * x + y, none⟩) (fun h => by simp only at h; omega) _
      have HR := Lib.hid (And.intro hfr (And.intro hr1 hr2))
      have u1 : y2.cell? ⟨ba, 3 * x + y, none⟩ = some (.slice Bj mj cj) := by rw [cell?_bk q1]; exact q5
      have u2 : y2.frozen? ⟨ba, 3 * x + y, none⟩ = false := frozen?_bk q1 _
      have u3 : (y2.setCell ⟨ba, 3 * x + y, none⟩ (.slice none 0 0)).cell? ⟨bb, 3 * x + y, none⟩ = some (.slice Bj' mj' cj') := by
        have : bk (y2.setCell ⟨ba, 3 * x + y, none⟩ (.slice none 0 0)) bb = some (.cells curb 46 (0, 0)) := by rw [bk_setCell_ne (p := ⟨ba, 3 * x + y, none⟩) (fun e => hne e.symm)]; exact p1
        rw [cell?_bk this]; exact p5
      have u4 : (y2.setCell ⟨ba, 3 * x + y, none⟩ (.slice none 0 0)).frozen? ⟨bb, 3 * x + y, none⟩ = false := by
        have : bk (y2.setCell ⟨ba, 3 * x + y, none⟩ (.slice none 0 0)) bb = some (.cells curb 46 (0, 0)) := by rw [bk_setCell_ne (p := ⟨ba, 3 * x + y, none⟩) (fun e => hne e.symm)]; exact p1
        exact frozen?_bk this _
      have n1 : 0 ≤ 3 * (x : Int) + (y : Int) := by omega
      have n2 : 3 * (x : Int) + (y : Int) < 9 := by omega
      have n3 : (3 * (x : Int) + (y : Int)).toNat = 3 * x + y := by omega
      have n4 : 3 * (x : Int) ≤ 6 := by omega
      have n5 : 0 ≤ 3 * (x : Int) := by omega
      clear q1 q2 q3 q4 q5 q6 p1 p2 p3 p4 p5 z1 z2 z3 ra rb hrb o1 o6 hra hr1 hr2 hfr hxy hrd
      go_wp2_with fail
      have hs9 := same_calls _ (some ⟨ba, 0, none⟩) (some ⟨bb, 0, none⟩) k1 k2 _ _ HR.out.2.1 HR.out.2.2 (by rw [List.length_set, allRows_length]; omega) (by rw [List.length_set, allRows_length]; omega)
      rw [List.length_set, List.length_set, allRows_length, allRows_length, decide_eq_true (allRow_but HB.out hx3 hy3)] at hs9
      refine hs9.mono ?_
      rintro e y3 ⟨rfl, n, rfl⟩
      clear hs9
      go_wp2_with fail
      go_ret
      exact ⟨rfl, (H0.out.trans HR.out.1).drewN n⟩

set_option maxHeartbeats 1000000 in
set_option maxRecDepth 100000 in
theorem pairs_big (w : World) (A : Option Addr) (cap : Nat) (ops : List OpS) (h : OpsAt w.heap.size w A ops) (a b : Int) (hf : fewOps ops = false) :
    Calls Try.prog 6 #[.slice A ops.length cap, .int .u8 a, .int .u8 b] w fun e w' => e = .returned (.bool true) ∧ Fr (fun _ => False) w w' := by
  have HO := Lib.hid h
  have HF := Lib.hid hf
  clear h hf
  go_enter Try.func6, Try.ntmps6
  go_wp2_with fail
  refine (head_calls w).mono ?_
  rintro e w0 ⟨rfl, hf0⟩
  have H0 := Lib.hid hf0; clear hf0
  go_wp2_with fail
  refine ((Two.start w0).made 3 (by omega) (by omega)).mono ?_
  rintro e w1 ⟨g, rfl, t1⟩
  have H1 := Lib.hid t1; clear t1
  go_wp2_with fail
  refine (H1.out.symm.made 3 (by omega) (by omega)).mono ?_
  rintro e w2 ⟨g2, rfl, t2⟩
  have H2 := Lib.hid (H0.out.trans t2.fr); clear t2
  go_wp2_with fail
  refine (few_raw w.heap.size w2 A cap ops (HO.out.later H2.out)).mono ?_
  rintro e w3 ⟨rfl, rfl⟩
  rw [HF.out]
  go_wp2_with fail
  go_ret
  exact ⟨rfl, H2.out⟩

/-- NetPairs, whatever the arguments. -/
theorem pairs_row (w : World) (x : OpsArg) (hx : OpsAt w.heap.size w x.A x.ops) (a : Int) (ha : (Lit.int .u8 a).wf = true) (b : Int) (hb : (Lit.int .u8 b).wf = true) :
    Calls Try.prog 6 #[x.value, .int .u8 a, .int .u8 b] w fun e w' => e = .returned (.bool true) ∧ Below w.heap.size w w' := by
  have hb' : ∀ {w w' : World}, Fr (fun _ => False) w w' → Below w.heap.size w w' := fun h => h.below _ (Nat.le_refl _) (fun _ h => h.elim)
  by_cases hf : fewOps x.ops = true
  · exact (pairs_good w x.A x.cap x.ops hx a b (u8_fits ha) (u8_fits hb) hf).mono fun e w' hh => ⟨hh.1, hb' hh.2⟩
  · exact (pairs_big w x.A x.cap x.ops hx a b (by simpa using hf)).mono fun e w' hh => ⟨hh.1, hb' hh.2⟩
end Go.Proofs.Ytamjclpopkfhmaa
