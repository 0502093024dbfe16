/-
NetFull.
-/
import Derived.Test.YtamjclpopkfhmaaHead
set_option linter.unusedVariables false
set_option linter.unusedSimpArgs false
namespace Go.Proofs.Ytamjclpopkfhmaa
open Go.RowKit Go.NetKit

/-- k messages of one text on one queue. -/
def fullN (f t : Int) (s : ByteArray) (k : Nat) : NetS := (NetS.new 3).setq f t (List.replicate k s)
structure Pair3 (f t : Int) : Prop where
  f0 : 0 ≤ f
  f3 : f < 3
  t0 : 0 ≤ t
  t3 : t < 3
  ne : f ≠ t
theorem Pair3.ok {f t : Int} (h : Pair3 f t) (q : Int → Int → List ByteArray) (c : Int → Int → Bool) : NetS.ok ⟨3, q, c⟩ f t = true := by
  obtain ⟨a, b, c', d, e⟩ := h
  unfold NetS.ok
  exact decide_eq_true ⟨a, c', b, d, e⟩
theorem Pair3.symm {f t : Int} (h : Pair3 f t) : Pair3 t f := ⟨h.t0, h.t3, h.f0, h.f3, fun e => h.ne e.symm⟩

section
variable {f t : Int} (h : Pair3 f t) (s : ByteArray) (hs : s.size ≤ 60)
include h
theorem fullN_ok (k : Nat) : (fullN f t s k).ok f t = true := h.ok _ _
theorem fullN_ok' (k : Nat) : (fullN f t s k).ok t f = true := h.symm.ok _ _
omit h in
theorem fullN_q (k : Nat) : (fullN f t s k).q f t = List.replicate k s := by simp [fullN, NetS.setq]
omit h in
theorem setq_setq (N : NetS) (l m : List ByteArray) : (N.setq f t l).setq f t m = N.setq f t m := by
  unfold NetS.setq
  congr 1
  funext x y
  by_cases hx : x = f ∧ y = t
  · simp [hx]
  · simp [hx]
include hs
theorem fullN_send (k : Nat) (hk : k < 100) : (fullN f t s k).send f t s = (fullN f t s (k + 1), 0) := by
  unfold NetS.send
  have hq := fullN_q (f := f) (t := t) s k
  rw [if_neg (by rw [fullN_ok h]; simp), if_neg (by simp [fullN, NetS.setq, NetS.new]), if_neg (by omega), if_neg (by rw [hq]; simp; omega), hq]
  congr 1
  unfold fullN
  rw [setq_setq, List.replicate_succ']
theorem fullN_full : (fullN f t s 100).send f t s = (fullN f t s 100, 21) := by
  unfold NetS.send
  have hq := fullN_q (f := f) (t := t) s 100
  rw [if_neg (by rw [fullN_ok h]; simp), if_neg (by simp [fullN, NetS.setq, NetS.new]), if_neg (by omega), if_pos (by rw [hq]; simp)]
omit hs in
theorem fullN_long (l : ByteArray) (hl : 20000 < l.size) : (fullN f t s 100).send f t l = (fullN f t s 100, 2) := by
  unfold NetS.send
  rw [if_neg (by rw [fullN_ok h]; simp), if_neg (by simp [fullN, NetS.setq, NetS.new]), if_pos hl]
/-- .. and one on the queue back. -/
def fullB (f t : Int) (s l : ByteArray) (k : Nat) : NetS := (fullN f t s k).setq t f [l]
omit hs in
theorem fullN_back (l : ByteArray) (hl : l.size ≤ 20000) (k : Nat) : (fullN f t s k).send t f l = (fullB f t s l k, 0) := by
  unfold NetS.send
  have hq : (fullN f t s k).q t f = [] := by
    have : ¬ (t = f ∧ f = t) := fun e => h.ne e.2
    simp [fullN, NetS.setq, NetS.new, this]
  rw [if_neg (by rw [fullN_ok' h]; simp), if_neg (by simp [fullN, NetS.setq, NetS.new]), if_neg (by omega), if_neg (by rw [hq]; simp), hq]
  rfl
omit hs in
theorem fullB_q (l : ByteArray) (k : Nat) : (fullB f t s l k).q f t = List.replicate k s := by
  have : ¬ (f = t ∧ t = f) := fun e => h.ne e.1
  simp [fullB, fullN, NetS.setq, this]
omit hs in
theorem setq_fullB (l : ByteArray) (k j : Nat) : (fullB f t s l k).setq f t (List.replicate j s) = fullB f t s l j := by
  unfold fullB fullN NetS.setq
  congr 1
  funext x y
  by_cases hx : x = f ∧ y = t
  · have : ¬ (x = t ∧ y = f) := fun e => h.ne (hx.1.symm.trans e.1)
    simp only [if_pos hx, if_neg this]
  · simp only [if_neg hx]
omit hs in
theorem fullB_lose (l : ByteArray) : (fullB f t s l 100).lose f t 99 = (fullB f t s l 99, 0) := by
  unfold NetS.lose
  have hq := fullB_q h s l 100
  have hok : (fullB f t s l 100).ok f t = true := h.ok _ _
  have hhas : (fullB f t s l 100).has f t 99 = true := by
    unfold NetS.has; rw [hq]; simp
  rw [if_neg (by rw [hok]; simp), if_neg (by rw [hhas]; simp)]
  congr 1
  unfold NetS.drop
  rw [hq, show (99 : Int).toNat = 99 from rfl]
  have : (List.replicate 100 s).eraseIdx 99 = List.replicate 99 s := by
    rw [List.eraseIdx_replicate]; simp
  rw [this, setq_fullB h]
theorem fullB_send (l : ByteArray) : (fullB f t s l 99).send f t s = (fullB f t s l 100, 0) := by
  unfold NetS.send
  have hq := fullB_q h s l 99
  have hok : (fullB f t s l 99).ok f t = true := h.ok _ _
  rw [if_neg (by rw [hok]; simp), if_neg (by simp [fullB, fullN, NetS.setq, NetS.new]), if_neg (by omega), if_neg (by rw [hq]; simp), hq]
  congr 1
  rw [← List.replicate_succ', setq_fullB h]
omit hs in
theorem fullB_count (l : ByteArray) : (fullB f t s l 100).count f t = 100 := by
  unfold NetS.count
  have hq := fullB_q h s l 100
  have hok : (fullB f t s l 100).ok f t = true := h.ok _ _
  rw [if_neg (by rw [hok]; simp), hq]; simp
end

/-- n bytes 0. -/
def zerosOf (n : Nat) : ByteArray := ⟨Array.replicate n 0⟩
theorem zerosOf_size (n : Nat) : (zerosOf n).size = n := by
  show (Array.replicate n (0 : UInt8)).size = n
  simp
theorem zerosOf_cells (n : Nat) : madeCells #[.int .u8 0] n = cellsOf (zerosOf n) := by
  unfold cellsOf zerosOf
  simp only [Array.map_replicate]
  apply Array.ext_getElem?
  intro i
  simp only [madeCells, Array.getElem?_map, Array.getElem?_replicate, Array.getElem?_range]
  by_cases h : i < n
  · simp [h, Nat.mod_one]
  · simp [h]
def longS : ByteArray := zerosOf 20001
theorem longS_size : longS.size = 20001 := zerosOf_size _

set_option maxHeartbeats 1000000 in
set_option maxRecDepth 100000 in
theorem full_calls (a b : Int) (s : ByteArray) (ha : 0 ≤ a) (ha2 : a ≤ 255) (hb : 0 ≤ b) (hb2 : b ≤ 255) (hs : s.size ≤ 60) (w : World) :
    Calls Try.prog 4 #[.int .u8 a, .int .u8 b, .string s] w fun e w' => e = .returned (.bool true) ∧ Fr (fun _ => False) w w' := by
  have hmk : ∀ W, (Instr.makeSlice 38 (.int .i64 20001) (.int .i64 20001)).run Try.prog W = .ok (.slice (some ⟨W.heap.size, 0, none⟩) 20001 20001) (W.alloc (.cells (cellsOf longS) 5)) := fun W => by
    have := run_make_row' (P := Try.prog) 38 5 (.int .u8 0) 1 Try.underlying38 Try.info5 rfl .i64 .i64 20001 (by omega) (by omega) W
    rw [zerosOf_cells] at this
    exact this
  have HP := Lib.hid (show ∀ f t : Int, f = a % 3 → t = (f + 1 + b % 2) % 3 → Pair3 f t from fun f t h1 h2 => ⟨by omega, by omega, by omega, by omega, by omega⟩)
  go_enter Try.func4, Try.ntmps4
  go_wp2_with fail
  refine (head_calls w).mono ?_
  rintro e w0 ⟨rfl, hf0⟩
  have HF := Lib.hid hf0; clear hf0
  have HT := Lib.hid (Two.start w0)
  go_wp2_with fail
  refine (HT.out.made 3 (by omega) (by omega)).mono ?_
  rintro e w1 ⟨g, rfl, t1⟩
  have H1 := Lib.hid t1; clear t1
  have hcv : ∀ W, bk W w1.heap.size = some (.cells (cellsOf longS) 5) → (convert 38 9 (.slice (some ⟨w1.heap.size, 0, none⟩) 20001 20001)).run Try.prog W = .ok (.string longS) W := fun W hW => by
    have := conv_msg (W := W) (p := (w1.heap.size, longS)) hW
    unfold msgV at this
    rw [longS_size] at this; exact this
  go_wp2_with fail
  have hp3 := HP.out (a % 3) ((a % 3 + 1 + b % 2) % 3) rfl rfl
  have H3 := Lib.hid hp3; clear hp3
  go_loopw [13] (fun i wr => ∃ k : Nat, k ≤ 100 ∧ i = .int .i64 k ∧ Two w0 wr (some ⟨g, 0, none⟩) none (fullN (a % 3) ((a % 3 + 1 + b % 2) % 3) s k) (NetS.new 0)) (fun i _ => 100 - (intOf i).toNat)
  case atStart =>
    refine ⟨0, by omega, rfl, ?_⟩
    have h0 : fullN (a % 3) ((a % 3 + 1 + b % 2) % 3) s 0 = NetS.new 3 := by
      unfold fullN NetS.setq NetS.new
      congr 1
      funext x y
      split <;> rfl
    rw [h0]
    exact H1.out.beside ((Fr.refl _ _).alloc _)
  case round =>
    obtain ⟨k, hk, rfl, htwo⟩ := hrel
    have HW := Lib.hid htwo; clear htwo
    by_cases hlt : k < 100
    · have hk1 : (k : Int) < 100 := by omega
      go_wp2_with (go_at_call 15; refine (HW.out.send (a % 3) ((a % 3 + 1 + b % 2) % 3) s 0 (by rw [fullN_send H3.out s hs k hlt])).mono ?_; rintro e w2 ⟨rfl, t2⟩; have H2 := Lib.hid t2; clear t2)
      go_roundw
      case rel =>
        refine ⟨k + 1, by omega, by go_num, ?_⟩
        have := H2.out
        rw [fullN_send H3.out s hs k hlt] at this; exact this
      case measure => simp [intOf]; omega
    · obtain rfl : k = 100 := by omega
      have hl1 : 1 ≤ longS.size := by rw [longS_size]; omega
      go_wp2_with fail
      refine (HW.out.send (a % 3) ((a % 3 + 1 + b % 2) % 3) s 21 (by rw [fullN_full H3.out s hs])).mono ?_
      rintro e w2 ⟨rfl, t2⟩
      rw [fullN_full H3.out s hs] at t2
      have H2 := Lib.hid t2; clear t2
      go_wp2_with fail
      refine (H2.out.send (a % 3) ((a % 3 + 1 + b % 2) % 3) longS 2 (by rw [fullN_long H3.out s longS (by rw [longS_size]; omega)])).mono ?_
      rintro e w3 ⟨rfl, t3⟩
      rw [fullN_long H3.out s longS (by rw [longS_size]; omega)] at t3
      have H4 := Lib.hid t3; clear t3
      have hl2 : (longS.extract 1 longS.size).size ≤ 20000 := by
        have := longS_size
        simp; omega
      have HL := Lib.hid hl2; clear hl2
      go_wp2_with fail
      refine (H4.out.send ((a % 3 + 1 + b % 2) % 3) (a % 3) (longS.extract 1 longS.size) 0 (by rw [fullN_back H3.out s _ HL.out])).mono ?_
      rintro e w4 ⟨rfl, t4⟩
      rw [fullN_back H3.out s _ HL.out] at t4
      have H5 := Lib.hid t4; clear t4
      go_wp2_with fail
      refine (H5.out.lose (a % 3) ((a % 3 + 1 + b % 2) % 3) 99 0 (by rw [fullB_lose H3.out])).mono ?_
      rintro e w5 ⟨rfl, t5⟩
      rw [fullB_lose H3.out] at t5
      have H6 := Lib.hid t5; clear t5
      go_wp2_with fail
      refine (H6.out.send (a % 3) ((a % 3 + 1 + b % 2) % 3) s 0 (by rw [fullB_send H3.out s hs])).mono ?_
      rintro e w6 ⟨rfl, t6⟩
      rw [fullB_send H3.out s hs] at t6
      have H7 := Lib.hid t6; clear t6
      go_wp2_with fail
      refine (H7.out.count (a % 3) ((a % 3 + 1 + b % 2) % 3) 100 (by rw [fullB_count H3.out])).mono ?_
      rintro e w7 ⟨rfl, t7⟩
      have H8 := Lib.hid t7.fr; clear t7
      go_wp2_with fail
      go_ret
      exact ⟨rfl, HF.out.trans H8.out⟩

set_option maxHeartbeats 1000000 in
set_option maxRecDepth 100000 in
theorem full_big (a b : Int) (s : ByteArray) (ha : 0 ≤ a) (ha2 : a ≤ 255) (hb : 0 ≤ b) (hb2 : b ≤ 255) (hs : 60 < s.size) (w : World) :
    Calls Try.prog 4 #[.int .u8 a, .int .u8 b, .string s] w fun e w' => e = .returned (.bool true) ∧ Fr (fun _ => False) w w' := by
  have hs' : (60 : Int) < (s.size : Int) := by omega
  go_enter Try.func4, Try.ntmps4
  go_wp2_with fail
  refine (head_calls w).mono ?_
  rintro e w0 ⟨rfl, hf0⟩
  have HF := Lib.hid hf0; clear hf0
  have HT := Lib.hid (Two.start w0)
  go_wp2_with fail
  refine (HT.out.made 3 (by omega) (by omega)).mono ?_
  rintro e w1 ⟨g, rfl, t1⟩
  have H1 := Lib.hid t1.fr; clear t1
  go_wp2_with fail
  go_ret
  exact ⟨rfl, HF.out.trans H1.out⟩

theorem Fr_below {w w' : World} (h : Fr (fun _ => False) w w') : Below w.heap.size w w' := h.below _ (Nat.le_refl _) (fun _ h => h.elim)
theorem u8_in {a : Int} (h : (Lit.int .u8 a).wf = true) : 0 ≤ a ∧ a ≤ 255 := by
  simpa [Lit.wf, IntKind.min, IntKind.max, IntKind.signed, IntKind.bits] using h

/-- NetFull, whatever the arguments. -/
theorem full_walk (w : World) (a : Int) (ha : (Lit.int .u8 a).wf = true) (b : Int) (hb : (Lit.int .u8 b).wf = true) (s : ByteArray) (_ : s.size ≤ maxLen) :
    Calls Try.prog 4 #[.int .u8 a, .int .u8 b, .string s] w fun e w' => e = .returned (.bool true) ∧ Below w.heap.size w w' := by
  have h1 := u8_in ha
  have h2 := u8_in hb
  by_cases hs : s.size ≤ 60
  · exact (full_calls a b s h1.1 h1.2 h2.1 h2.2 hs w).mono fun e w' hh => ⟨hh.1, Fr_below hh.2⟩
  · exact (full_big a b s h1.1 h1.2 h2.1 h2.2 (by omega) w).mono fun e w' hh => ⟨hh.1, Fr_below hh.2⟩
end Go.Proofs.Ytamjclpopkfhmaa
