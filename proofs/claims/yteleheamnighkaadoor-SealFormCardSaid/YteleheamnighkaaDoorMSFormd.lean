/-
What RowSForm leans on, part 4: the texts of this seat, merged.
-/
import Derived.Test.YteleheamnighkaaDoorMSFormc
import Derived.Test.YteleheamnighkaaDoorProg
import Derived.Below
import Derived.Deep.Draws
import Derived.Deep.AppendLies
import Derived.Maps.AppendAt
import Derived.OwnWalk
import Derived.Laws.BytesArg
import Derived.Laws.MakeOwn
import Derived.Laws.OwnMore
import Derived.Deep.OwnRows
import Derived.Tactics
import Derived.Lib.ConvBytes
import Derived.Laws.Slices
import Derived.WalkKit
import Derived.KernelRfl
import Derived.RowKit3
import Derived.Deep.LoopGhost
import Derived.Deep.QuietTactic
import Derived.BigQuiet
import Derived.WideLaws
import Derived.Deep.DeepCutAuto
import Derived.Deep.CutBlock
import Derived.Deep.RegionHeld3
import Derived.Laws.Rows
import Derived.Lib.AppendStr
import Derived.ArgAppend
import Derived.Laws.IdiomCopy
import Derived.OrdersHeld
import Derived.Laws.BitsLemmas
import Derived.RowKit
section
set_option linter.unusedVariables false
set_option linter.unusedSimpArgs false
namespace Go.Proofs.YteleheamnighkaaDoor
open Go.RowKit Go.Shelf Go.DoorKit Go.DoorRound Go.Proofs.YteleheamnighkaaDoorW.PrintWords Go.Proofs.YteleheamnighkaaDoorW.PrintLast Go.Proofs.YteleheamnighkaaDoorW.PrintMore
def BadTo (w : World) (e : Ending) (w' : World) : Prop := e = .returned (.tuple #[.agg #[.int .i64 0, .slice none 0 0, .slice none 0 0], .int .i64 1]) ∧ Below w.heap.size w w'
theorem bad_end {w : World} {a0 : ByteArray} {a2 : Int} {nq : Nat} {tm : Array Value} (t9 : tm.getD 9 undef = .int .i64 1) (t8 : tm.getD 8 undef = .pointer (some ⟨w.heap.size + 1 + 1, 0, none⟩)) :
    bodyPost Tryd.prog Tryd.f30 (fun e w' => BadTo w e w') .ret { tmps := tm, defers := [] }
      (((((((w.alloc (.cells #[.string a0] 9)).alloc (.cells #[.int .i64 a2] 3)).alloc (.cells #[.int .i64 0, .slice none 0 0, .slice none 0 0] 35)).drewN nq).setCell ⟨w.heap.size + 1 + 1, 0, none⟩ (.int .i64 0)).setCell ⟨w.heap.size + 1 + 1, 1, none⟩ (.slice none 0 0)).setCell ⟨w.heap.size + 1 + 1, 2, none⟩ (.slice none 0 0)) := by
  have k0 := blk_new ((w.alloc (.cells #[.string a0] 9)).alloc (.cells #[.int .i64 a2] 3)) (.cells #[.int .i64 0, .slice none 0 0, .slice none 0 0] 35)
  simp only [World.size_alloc] at k0
  have k1 := blk_put (cs' := #[.int .i64 0, .slice none 0 0, .slice none 0 0]) (blk_put (cs' := #[.int .i64 0, .slice none 0 0, .slice none 0 0]) (blk_put (cs' := #[.int .i64 0, .slice none 0 0, .slice none 0 0]) (blk_drewN k0 nq) 0 (.int .i64 0) rfl) 1 (.slice none 0 0) rfl) 2 (.slice none 0 0) rfl
  refine bodyPost_ret (results_ct rfl _ _ (w.heap.size + 1 + 1) 35 _ (0, 0) _ t8 k1 Tryd.underlying35 rfl (by kernel_rfl)) rfl ⟨?_, ?_⟩
  · rw [t9]
  · have hb := pw_below_drewN (below_alloc (below_alloc (below_alloc (Below.refl w.heap.size w) (.cells #[.string a0] 9)) (.cells #[.int .i64 a2] 3)) (.cells #[.int .i64 0, .slice none 0 0, .slice none 0 0] 35)) nq
    have hp : w.heap.size ≤ w.heap.size + 1 + 1 := by omega
    exact ((hb.setCell (p := ⟨w.heap.size + 1 + 1, 0, none⟩) hp _).setCell (p := ⟨w.heap.size + 1 + 1, 1, none⟩) hp _).setCell (p := ⟨w.heap.size + 1 + 1, 2, none⟩) hp _
set_option maxRecDepth 100000 in
set_option maxHeartbeats 4000000 in
theorem sign_bad (a0 : ByteArray) (a1 a2 : Int) (msg : ByteArray) (w : World) (h : a1 < 0 ∨ 8 < a1 ∨ a2 < 0 ∨ (2 : Int) ^ a1.toNat ≤ a2) :
    Calls Tryd.prog 30 #[.string a0, .int .i64 a1, .int .i64 a2, .string msg] w fun e w' => BadTo w e w' := by
  by_cases c1 : a1 < 0
  · go_enter Tryd.func30, Tryd.ntmps30
    go_wp2
    have d1 : decide (a1 < 0) = true := decide_eq_true c1
    go_quiet (fail)
    clear d1
    go_wp2
    refine bad_end ?_ ?_
    · rfl
    · rfl
  · have d1 : decide (a1 < 0) = false := decide_eq_false c1
    by_cases c2 : 8 < a1
    · go_enter Tryd.func30, Tryd.ntmps30
      go_wp2
      have d2 : decide (8 < a1) = true := decide_eq_true c2
      go_quiet (fail)
      clear d1 d2
      go_wp2
      refine bad_end ?_ ?_
      · rfl
      · rfl
    · have d2 : decide (8 < a1) = false := decide_eq_false c2
      by_cases c3 : a2 < 0
      · go_enter Tryd.func30, Tryd.ntmps30
        go_wp2
        have d3 : decide (a2 < 0) = true := decide_eq_true c3
        go_quiet (fail)
        clear d1 d2 d3
        go_wp2
        refine bad_end ?_ ?_
        · rfl
        · rfl
      · have h4 : (2 : Int) ^ a1.toNat ≤ a2 := by rcases h with h | h | h | h <;> first | exact absurd h (by assumption) | exact h
        obtain ⟨n, rfl⟩ := Int.eq_ofNat_of_zero_le (show 0 ≤ a1 by omega)
        rw [Int.toNat_natCast] at h4
        have hp : 2 ^ n ≤ 256 := Nat.le_trans (pow_le (show n ≤ 8 by omega)) (by decide)
        have hpow : (2 : Int) ^ n = ((2 ^ n : Nat) : Int) := by simp
        generalize 2 ^ n = Pw at *
        rw [hpow] at h4
        have d5 : IntKind.i64.wrap (Pw : Int) = (Pw : Int) := IntWalk.i64_in _ (by omega)
        have d3 : decide (a2 < 0) = false := decide_eq_false c3
        have d4 : decide ((Pw : Int) ≤ a2) = true := decide_eq_true h4
        have c2' : ¬ (8 : Int) < (n : Int) := c2
        clear h h4
        go_enter Tryd.func30, Tryd.ntmps30
        go_wp2
        go_quiet (fail)
        clear d1 d2 d3 d4 d5 hpow
        go_wp2
        refine bad_end ?_ ?_
        · rfl
        · rfl
def signIn (a0 a3 : ByteArray) : Prop := Small a0.size ∧ Big a3.size
instance (a0 a3 : ByteArray) : Decidable (signIn a0 a3) := inferInstanceAs (Decidable (Small a0.size ∧ Big a3.size))
def signBad (a1 a2 : Int) : Prop := a1 < 0 ∨ 8 < a1 ∨ a2 < 0 ∨ (2 : Int) ^ a1.toNat ≤ a2
instance (a1 a2 : Int) : Decidable (signBad a1 a2) := inferInstanceAs (Decidable (a1 < 0 ∨ 8 < a1 ∨ a2 < 0 ∨ (2 : Int) ^ a1.toNat ≤ a2))
def signR (s : Dig.Txt) (a1 a2 : Int) (m : Dig.Txt) : Int × List ByteArray × List ByteArray × Int :=
  if signBad a1 a2 then (0, [], [], 1) else (a2, sigL s a2.toNat m, pathL s a2.toNat a1.toNat, 0)
def seal_Sign.f (a0 : ByteArray) (a1 a2 : Int) (a3 : ByteArray) : Option (Int × List ByteArray × List ByteArray × Int) := if signIn a0 a3 then some (signR (tx a0) a1 a2 (tx a3)) else none
theorem seal_Sign.calls (a0 : ByteArray) (a1 a2 : Int) (a3 : ByteArray) (r1 : Int) (r2 r3 : List ByteArray) (r4 : Int) (w : World) (h : seal_Sign.f a0 a1 a2 a3 = some (r1, r2, r3, r4)) (hG : Glob w) :
    Calls Tryd.prog 30 #[.string a0, .int .i64 a1, .int .i64 a2, .string a3] w fun e w' => ∃ v1_ v2_ : Value, e = .returned (.tuple #[.agg #[.int .i64 r1, v1_, v2_], .int .i64 r4]) ∧ Kd.R Kd.string 9 w' w.heap.size (fun k_ => some k_ ≠ (v2_ : Value).ownBlock) v1_ r2 ∧ Kd.R Kd.string 9 w' w.heap.size (fun k_ => some k_ ≠ (v1_ : Value).ownBlock) v2_ r3 ∧ Below w.heap.size w w' := by
  obtain ⟨⟨hs, hm⟩, hr⟩ := if_out h
  unfold signR at hr
  by_cases hb : signBad a1 a2
  · rw [if_pos hb] at hr
    injection hr with h1 hr
    injection hr with h2 hr
    injection hr with h3 h4
    subst h1 h2 h3 h4
    refine (sign_bad a0 a1 a2 a3 w hb).mono ?_
    rintro e w' ⟨rfl, hB⟩
    exact ⟨_, _, rfl, Kd.R_nil _ _ _ _ _, Kd.R_nil _ _ _ _ _, hB⟩
  · rw [if_neg hb] at hr
    injection hr with h1 hr
    injection hr with h2 hr
    injection hr with h3 h4
    subst h1 h2 h3 h4
    unfold signBad at hb
    obtain ⟨n, rfl⟩ := Int.eq_ofNat_of_zero_le (show 0 ≤ a1 by omega)
    obtain ⟨i, rfl⟩ := Int.eq_ofNat_of_zero_le (show 0 ≤ a2 by omega)
    rw [Int.toNat_natCast] at hb
    have hi : i < 2 ^ n := by
      have hpow : (2 : Int) ^ n = ((2 ^ n : Nat) : Int) := by simp
      rw [hpow] at hb
      generalize 2 ^ n = P at *
      omega
    exact callsIn_wide.1 (sign_in a0 n i a3 w hs hm (by omega) hi hG)
theorem public_l0 (s : Dig.Txt) : ∀ (d j e : Nat), d ≤ 9 → PCg.seal_Public.l0 (d + e + 1) (lvl s (2 ^ d) j) = some (ofT (Dig.tree s (j + d) 0), 0)
  | 0, j, e, _ => by
    have hl := lvl_len s (2 ^ 0) j
    have hl : ((lvl s (2 ^ 0) j).length : Int) = 1 := by rw [hl]; rfl
    rw [PCg.seal_Public.l0, if_neg (by omega), if_pos (by omega)]
    unfold rdOf
    rw [show (0 : Int).toNat = 0 from rfl, lvl_get _ _ _ _ (by decide)]; rfl
  | d + 1, j, e, h => by
    have hp : 2 ^ (d + 1) = 2 * 2 ^ d := by rw [Nat.pow_succ, Nat.mul_comm]
    have hp0 := Nat.two_pow_pos d
    have hp9 : 2 ^ d ≤ 256 := Nat.le_trans (pow_le (show d ≤ 8 by omega)) (by decide)
    have hl := lvl_len s (2 ^ (d + 1)) j
    have hA : seal_above.f (lvl s (2 ^ (d + 1)) j) = some (lvl s (2 ^ d) (j + 1)) := by
      unfold seal_above.f
      rw [if_pos, hp, upL_lvl]
      refine ⟨⟨by omega, fun x hx => by rw [lvl_size s _ j x hx]; decide⟩, by omega, by omega⟩
    rw [show d + 1 + e + 1 = (d + e + 1) + 1 by omega, PCg.seal_Public.l0, if_pos (by omega), hA, Option.bind_some, public_l0 s d (j + 1) e (by omega), show j + 1 + d = j + (d + 1) by omega]
def publicR (s : Dig.Txt) (a1 : Int) : ByteArray × Int := if a1 < 0 ∨ 8 < a1 then (⟨#[]⟩, 1) else (ofT (Dig.tree s a1.toNat 0), 0)
def seal_Public.f (a0 : ByteArray) (a1 : Int) : Option (ByteArray × Int) := if Small a0.size then some (publicR (tx a0) a1) else none
theorem seal_Public.calls (a0 : ByteArray) (a1 : Int) (r1 : ByteArray) (r2 : Int) (w : World) (h : seal_Public.f a0 a1 = some (r1, r2)) (hG : Glob w) :
    Calls Tryd.prog 28 #[.string a0, .int .i64 a1] w fun e w' => e = .returned (.tuple #[.string r1, .int .i64 r2]) ∧ Below w.heap.size w w' := by
  obtain ⟨hs, hr⟩ := if_out h
  unfold publicR at hr
  by_cases hb : a1 < 0 ∨ 8 < a1
  · rw [if_pos hb] at hr
    refine PCg.seal_Public.calls 1 a0 a1 r1 r2 w ?_ hG
    rw [← hr]
    unfold PCg.seal_Public.f
    by_cases h0 : a1 < 0
    · rw [if_pos h0, PCg.seal_Public.j0, if_pos rfl]
    · have h8 : a1 > 8 := by omega
      rw [if_neg h0, PCg.seal_Public.j0, if_pos (decide_eq_true h8)]
  · rw [if_neg hb] at hr
    obtain ⟨n, rfl⟩ := Int.eq_ofNat_of_zero_le (show 0 ≤ a1 by omega)
    refine PCg.seal_Public.calls (2 ^ n + n + 1 + 1) a0 n r1 r2 w ?_ hG
    rw [← hr]
    unfold PCg.seal_Public.f
    have h8 : ¬ ((n : Int) > 8) := by omega
    have hk := keys_f a0 n n hs (by omega)
    have hl := public_l0 (tx a0) n 0 (2 ^ n) (by omega)
    rw [show n + 2 ^ n + 1 = 2 ^ n + n + 1 by omega, Nat.zero_add] at hl
    rw [if_neg (by omega), PCg.seal_Public.j0, if_neg (by rw [decide_eq_false h8]; decide), hk, Option.bind_some, hl, Int.toNat_natCast]
end Go.Proofs.YteleheamnighkaaDoor
end
section
set_option linter.unusedVariables false
set_option linter.unusedSimpArgs false
namespace Go.Proofs.YteleheamnighkaaDoor
open Go.RowKit Go.Shelf Go.DoorKit Go.DoorRound Go.Proofs.YteleheamnighkaaDoorW.PrintWords Go.Proofs.YteleheamnighkaaDoorW.PrintLast Go.Proofs.YteleheamnighkaaDoorW.PrintMore
theorem goesV_ {P : Program} {ops : Array Oper} {Q : Exit → Act → World → Prop} {oi : Oper} {N : Option Tmp} {a : Act} {w : World} {K : Act → World → Prop} (f : FuncId) {fn : Func} {c : Operand} {al : Array Operand} {ts : Array TypeId} (hf : P.funcs[f]? = some fn) (hname : (fn.name == "runtime.NumGoroutine") = false) (hb : fn.body.isSome = true) (args : Array Value)
    (hw : Region.wanted oi (yielded ops a.tmps) = true) (hN : oi.dst = N) (hop : oi.op = .call { callee := .value c, args := al, argTypes := ts }) (hc : a.eval c = .func (.func f) #[] #[]) (hargs : al.map a.eval = args)
    (h : Calls P f args w fun e w' => ∃ v, e = .returned v ∧ K (a.put N v) w') : if Region.wanted oi (yielded ops a.tmps) = true then Oper.wp P oi a w K Q else K (a.put N undef) w := by
  refine call_ f args hw hN ?_ h
  have he := enters_ hf hname hb args w
  unfold execOp
  simp [hop, resolve, hc, Deferred.ofValue, invoke, hargs, he]
theorem f62_calls (t : ByteArray) (w : World) (h : Big t.size) : Calls Tryd.prog 62 #[.string t] w fun e w' => e = .returned (.bool (!Dig.isD (tx t))) ∧ Below w.heap.size w w' := by
  have HC := Lib.hid (digest_Is.calls t (Dig.isD (tx t)) w (if_pos h))
  go_enter Tryd.func62, Tryd.ntmps62
  go_wp2_with (go_at_call 21; refine HC.out.mono ?_; rintro e w' ⟨rfl, hb⟩)
  go_ret
  exact ⟨rfl, hb⟩
def OkTo (l : List ByteArray) (k : Nat) : Prop := ∀ i, i < k → i < l.length → Dig.isD (tx (l.getD i ByteArray.empty)) = true
theorem okTo_succ {l : List ByteArray} {k : Nat} (h : OkTo l k) (hk : Dig.isD (tx (l.getD k ByteArray.empty)) = true) : OkTo l (k + 1) := by
  intro i hi hl
  by_cases e : i = k
  · rw [e]; exact hk
  · exact h i (by omega) hl
set_option maxHeartbeats 1000000 in
theorem f85_calls (A : Option Addr) (c : Nat) (l : List ByteArray) (w : World) (hr : Kd.C Kd.string w A l.length l) (hc : l.length ≤ c) (hbig : ∀ s ∈ l, Big s.size) (hlen : l.length ≤ 1000000) :
    Calls Tryd.prog 85 #[.slice A l.length c, .func (.func 62) #[] #[]] w fun e w' => ∃ z : Int, e = .returned (.int .i64 z) ∧ (0 ≤ z ↔ l.any (fun t => !Dig.isD (tx t)) = true) ∧ Below w.heap.size w w' := by
  go_enter Tryd.func85, Tryd.ntmps85
  go_wp2
  go_loopw [8] (fun i wr => ∃ k : Nat, k ≤ l.length ∧ i = .int .i64 (k : Int) ∧ OkTo l k ∧ Below w.heap.size w wr) (fun i _ => l.length - (intOf i).toNat)
  case atStart => exact ⟨0, Nat.zero_le _, rfl, fun i hi => absurd hi (by omega), Below.refl _ _⟩
  case round =>
    obtain ⟨k, hk, rfl, hok, hB⟩ := hrel
    by_cases hlt : k < l.length
    · obtain ⟨ad, rfl, hcell⟩ := Kd.at_string (Kd.C_below hr hB) (k : Int) (by omega) (by omega)
      rw [Int.toNat_natCast] at hcell
      unfold rdOf at hcell
      rw [Int.toNat_natCast] at hcell
      have hq1 : (k : Int) < (l.length : Int) := by omega
      have hbk := hbig _ (getD_mem hlt)
      have HK := Lib.hid (And.intro hr (And.intro hbig hok))
      clear hr hbig hok
      obtain ⟨b, hbb⟩ : ∃ b, b = (!Dig.isD (tx (l.getD k ByteArray.empty))) := ⟨_, rfl⟩
      have HC := Lib.hid (f62_calls (l.getD k ByteArray.empty) wr hbk)
      rw [← hbb] at HC
      have HBB := Lib.hid hbb
      generalize hgt : l.getD k ByteArray.empty = t at *
      have HT := Lib.hid hgt
      clear hgt
      clear hbb
      cases b with
      | true =>
        go_wp2_with (go_at_call 62; refine HC.out.mono ?_; rintro e w1 ⟨rfl, hb1⟩)
        go_ret
        obtain ⟨hr, hbig, hok⟩ := HK.out
        refine ⟨(k : Int), rfl, ⟨fun _ => ?_, fun _ => by omega⟩, hB.trans (hb1.mono hB.size)⟩
        rw [List.any_eq_true]
        exact ⟨t, by rw [← HT.out]; exact getD_mem hlt, HBB.out.symm⟩
      | false =>
        go_wp2_with (go_at_call 62; refine HC.out.mono ?_; rintro e w1 ⟨rfl, hb1⟩)
        go_roundw
        case rel => exact ⟨k + 1, by omega, by first | rfl | (congr 1; omega), okTo_succ HK.out.2.2 (by rw [HT.out]; simpa using HBB.out.symm), hB.trans (hb1.mono hB.size)⟩
        case measure => simp [intOf]; omega
    · obtain rfl : k = l.length := by omega
      have HK := Lib.hid (And.intro hr (And.intro hbig hok))
      clear hr hbig hok
      go_wp2
      go_ret
      refine ⟨-1, rfl, ⟨fun h => by omega, fun h => ?_⟩, hB⟩
      obtain ⟨t, ht, h2⟩ := List.any_eq_true.1 h
      obtain ⟨i, hi, rfl⟩ := List.getElem_of_mem ht
      have := HK.out.2.2 i hi hi
      rw [List.getD_eq_getElem?_getD, List.getElem?_eq_getElem hi, Option.getD_some] at this
      rw [this] at h2; cases h2
def oddB (l : List ByteArray) : Bool := l.any fun t => !Dig.isD (tx t)
theorem f61_calls (A : Option Addr) (c : Nat) (l : List ByteArray) (w : World) (hr : Kd.C Kd.string w A l.length l) (hc : l.length ≤ c) (hbig : ∀ s ∈ l, Big s.size) (hlen : l.length ≤ 1000000) :
    Calls Tryd.prog 61 #[.slice A l.length c, .func (.func 62) #[] #[]] w fun e w' => e = .returned (.bool (oddB l)) ∧ Below w.heap.size w w' := by
  have h85 := f85_calls A c l w hr hc hbig hlen
  cases hb : oddB l with
  | true =>
    have HC := Lib.hid (h85.mono (R' := fun e w' => ∃ z : Int, e = .returned (.int .i64 z) ∧ 0 ≤ z ∧ Below w.heap.size w w') (fun e w' ⟨z, h1, h2, h3⟩ => ⟨z, h1, h2.2 hb, h3⟩))
    clear hr hbig hb h85
    go_enter Tryd.func61, Tryd.ntmps61
    go_wp2_with (go_at_call 85; refine HC.out.mono ?_; rintro e w1 ⟨z, rfl, hz, hb1⟩)
    go_ret
    exact ⟨rfl, hb1⟩
  | false =>
    have HC := Lib.hid (h85.mono (R' := fun e w' => ∃ z : Int, e = .returned (.int .i64 z) ∧ z < 0 ∧ Below w.heap.size w w') (fun e w' ⟨z, h1, h2, h3⟩ => ⟨z, h1, by
      have h0 : ¬ 0 ≤ z := fun h => by have := h2.1 h; unfold oddB at hb; rw [hb] at this; cases this
      omega, h3⟩))
    clear hr hbig hb h85
    go_enter Tryd.func61, Tryd.ntmps61
    go_wp2_with (go_at_call 85; refine HC.out.mono ?_; rintro e w1 ⟨z, rfl, hz, hb1⟩)
    go_ret
    refine ⟨?_, hb1⟩
    show Ending.returned (.bool (decide (0 ≤ z))) = _
    rw [decide_eq_false (by omega)]
theorem odd_calls (A : Option Addr) (c : Nat) (l : List ByteArray) (w : World) (hr : Kd.C Kd.string w A l.length l) (hc : l.length ≤ c) (hbig : ∀ s ∈ l, Big s.size) (hlen : l.length ≤ 1000000) :
    Calls Tryd.prog 60 #[.slice A l.length c] w fun e w' => e = .returned (.bool (oddB l)) ∧ Below w.heap.size w w' := by
  have HC := Lib.hid (f61_calls A c l w hr hc hbig hlen)
  clear hr hbig
  go_enter Tryd.func60, Tryd.ntmps60
  go_wp2_with (go_at_call 61; refine HC.out.mono ?_; rintro e w1 ⟨rfl, hb1⟩)
  go_ret
  exact ⟨rfl, hb1⟩
end Go.Proofs.YteleheamnighkaaDoor
end
section
set_option linter.unusedVariables false
set_option linter.unusedSimpArgs false
namespace Go.Proofs.YteleheamnighkaaDoor
open Go.RowKit Go.Shelf Go.DoorKit Go.DoorRound Go.Proofs.YteleheamnighkaaDoorW.PrintWords Go.Proofs.YteleheamnighkaaDoorW.PrintLast Go.Proofs.YteleheamnighkaaDoorW.PrintMore
def VerTo (w : World) (b : Bool) (e : Ending) (w' : World) : Prop := e = .returned (.bool b) ∧ Below w.heap.size w w'
section
variable (a0 msg : ByteArray) (idx : Int) (A1 A2 : Option Addr) (c1 c2 : Nat) (l1 l2 : List ByteArray) (w : World)
def OddOf (A : Option Addr) (c : Nat) (l : List ByteArray) (b : Bool) : Prop := ∀ W, Below w.heap.size w W → Calls Tryd.prog 60 #[.slice A l.length c] W fun e w' => e = .returned (.bool b) ∧ Below W.heap.size W w'
theorem oddOf {w : World} {A : Option Addr} {c : Nat} {l : List ByteArray} (hr : Kd.C Kd.string w A l.length l) (hc : l.length ≤ c) (hbig : ∀ s ∈ l, Big s.size) (hlen : l.length ≤ 1000000) {b : Bool} (hb : oddB l = b) : OddOf w A c l b := by
  intro W hW
  rw [← hb]
  exact odd_calls A c l W (Kd.C_below hr hW) hc hbig hlen
set_option maxRecDepth 100000 in
set_option maxHeartbeats 4000000 in
theorem ver_bad1 (h1 : l1.length ≠ 18) :
    Calls Tryd.prog 33 #[.string a0, .string msg, .agg #[.int .i64 idx, .slice A1 l1.length c1, .slice A2 l2.length c2]] w fun e w' => VerTo w false e w' := by
  have d1 : ((l1.length : Int) == 18) = false := beq_eq_false_iff_ne.mpr (by omega)
  have d2 : ((l1.length : Int) != 18) = true := bne_iff_ne.mpr (by omega)
  clear h1
  go_enter Tryd.func33, Tryd.ntmps33
  go_wp2
  have BK := blk_new w (.cells #[.int .i64 idx, .slice A1 l1.length c1, .slice A2 l2.length c2] 35)
  have HB := below_alloc (Below.refl w.heap.size w) (.cells #[.int .i64 idx, .slice A1 l1.length c1, .slice A2 l2.length c2] 35)
  refine start_ (n := 32) (S := fun w' => w'.cell? ⟨w.heap.size, 0, none⟩ = some (.int .i64 idx) ∧ w'.cell? ⟨w.heap.size, 1, none⟩ = some (.slice A1 l1.length c1) ∧ w'.cell? ⟨w.heap.size, 2, none⟩ = some (.slice A2 l2.length c2)) (ds := []) #[false, false, false, false, false, false, false, false, false, false, false, false, false, false, false, false, false, false, false, false, false, false, false, false, false, false, false, false, false, false, false, false] (by kernel_rfl) rfl rfl ⟨(blk_cell (blk_drew BK) 0).trans rfl, (blk_cell (blk_drew BK) 1).trans rfl, (blk_cell (blk_drew BK) 2).trans rfl⟩ (fun hHeld => ?_)
  replace BK := blk_drew BK
  replace HB := below_drew1 HB
  generalize (w.alloc (.cells #[.int .i64 idx, .slice A1 l1.length c1, .slice A2 l2.length c2] 35)).drew = Wd at BK HB hHeld ⊢
  refine pure_ (i := 0) (N := some 18) (v := ?_) (a' := ?_) #[true, false, false, false, false, false, false, false, false, false, false, false, false, false, false, false, false, false, false, false, false, false, false, false, false, false, false, false, false, false, false, false] rfl rfl (any_of rfl (by kernel_rfl)) (fun _ _ _ h => h) (Or.inl ⟨by rfl, ?_⟩) ?_ ?_
  rotate_left
  · intro w'
    go_simp
    with_reducible rfl
  rotate_left
  · simp only [Act.put, List.setIfInBounds_toArray, List.set_cons_zero, List.set_cons_succ, i64_w, i32_w]
    rfl
  refine take_ (i := 1) (N := some 19) (v := ?_) (a' := ?_) #[true, true, false, false, false, false, false, false, false, false, false, false, false, false, false, false, false, false, false, false, false, false, false, false, false, false, false, false, false, false, false, false] rfl rfl (take_of rfl (by kernel_rfl)) (fun _ _ _ h => h) (Or.inl ⟨by rfl, ?_⟩) hHeld ?_ ?_
  rotate_left
  · rintro w' ⟨s0, s1, s2⟩
    go_simp
    with_reducible rfl
  rotate_left
  · simp only [Act.put, List.setIfInBounds_toArray, List.set_cons_zero, List.set_cons_succ, i64_w, i32_w]
    rfl
  refine pure_ (i := 2) (N := some 20) (v := ?_) (a' := ?_) #[true, true, true, false, false, false, false, false, false, false, false, false, false, false, false, false, false, false, false, false, false, false, false, false, false, false, false, false, false, false, false, false] rfl rfl (any_of rfl (by kernel_rfl)) (fun _ _ _ h => h) (Or.inl ⟨by rfl, ?_⟩) ?_ ?_
  rotate_left
  · intro w'
    go_simp
    with_reducible rfl
  rotate_left
  · simp only [Act.put, List.setIfInBounds_toArray, List.set_cons_zero, List.set_cons_succ, i64_w, i32_w]
    rfl
  refine pure_ (i := 3) (N := some 21) (v := ?_) (a' := ?_) #[true, true, true, true, false, false, false, false, false, false, false, false, false, false, false, false, false, false, false, false, false, false, false, false, false, false, false, false, false, false, false, false] rfl rfl (any_of rfl (by kernel_rfl)) (fun _ _ _ h => h) (Or.inl ⟨by rfl, ?_⟩) ?_ ?_
  rotate_left
  · intro w'
    go_simp
    with_reducible rfl
  rotate_left
  · simp only [Act.put, List.setIfInBounds_toArray, List.set_cons_zero, List.set_cons_succ, i64_w, i32_w]
    rfl
  refine pure_ (i := 4) (N := some 22) (v := ?_) (a' := ?_) #[true, true, true, true, true, false, false, false, false, false, false, false, false, false, false, false, false, false, false, false, false, false, false, false, false, false, false, false, false, false, false, false] rfl rfl (any_of rfl (by kernel_rfl)) (fun _ _ _ h => h) (Or.inl ⟨by rfl, ?_⟩) ?_ ?_
  rotate_left
  · intro w'
    go_simp
    with_reducible rfl
  rotate_left
  · simp only [Act.put, List.setIfInBounds_toArray, List.set_cons_zero, List.set_cons_succ, i64_w, i32_w]
    rfl
  refine pure_ (i := 5) (N := some 23) (v := undef) (a' := ?_) #[true, true, true, true, true, true, false, false, false, false, false, false, false, false, false, false, false, false, false, false, false, false, false, false, false, false, false, false, false, false, false, false] rfl rfl (any_of rfl (by kernel_rfl)) (fun _ _ _ h => h) (Or.inr ⟨by rfl, rfl⟩) ?_ ?_
  rotate_left
  · simp only [Act.put, List.setIfInBounds_toArray, List.set_cons_zero, List.set_cons_succ, i64_w, i32_w]
    rfl
  refine pure_ (i := 6) (N := some 24) (v := undef) (a' := ?_) #[true, true, true, true, true, true, true, false, false, false, false, false, false, false, false, false, false, false, false, false, false, false, false, false, false, false, false, false, false, false, false, false] rfl rfl (any_of rfl (by kernel_rfl)) (fun _ _ _ h => h) (Or.inr ⟨by rfl, rfl⟩) ?_ ?_
  rotate_left
  · simp only [Act.put, List.setIfInBounds_toArray, List.set_cons_zero, List.set_cons_succ, i64_w, i32_w]
    rfl
  refine pure_ (i := 7) (N := some 25) (v := ?_) (a' := ?_) #[true, true, true, true, true, true, true, true, false, false, false, false, false, false, false, false, false, false, false, false, false, false, false, false, false, false, false, false, false, false, false, false] rfl rfl (any_of rfl (by kernel_rfl)) (fun _ _ _ h => h) (Or.inl ⟨by rfl, ?_⟩) ?_ ?_
  rotate_left
  · intro w'
    go_simp
    with_reducible rfl
  rotate_left
  · simp only [Act.put, List.setIfInBounds_toArray, List.set_cons_zero, List.set_cons_succ, i64_w, i32_w]
    rfl
  refine pure_ (i := 8) (N := some 26) (v := ?_) (a' := ?_) #[true, true, true, true, true, true, true, true, true, false, false, false, false, false, false, false, false, false, false, false, false, false, false, false, false, false, false, false, false, false, false, false] rfl rfl (any_of rfl (by kernel_rfl)) (fun _ _ _ h => h) (Or.inl ⟨by rfl, ?_⟩) ?_ ?_
  rotate_left
  · intro w'
    go_simp
    with_reducible rfl
  rotate_left
  · simp only [Act.put, List.setIfInBounds_toArray, List.set_cons_zero, List.set_cons_succ, i64_w, i32_w]
    rfl
  refine pure_ (i := 9) (N := some 27) (v := undef) (a' := ?_) #[true, true, true, true, true, true, true, true, true, true, false, false, false, false, false, false, false, false, false, false, false, false, false, false, false, false, false, false, false, false, false, false] rfl rfl (any_of rfl (by kernel_rfl)) (fun _ _ _ h => h) (Or.inr ⟨by rfl, rfl⟩) ?_ ?_
  rotate_left
  · simp only [Act.put, List.setIfInBounds_toArray, List.set_cons_zero, List.set_cons_succ, i64_w, i32_w]
    rfl
  refine pure_ (i := 10) (N := some 28) (v := undef) (a' := ?_) #[true, true, true, true, true, true, true, true, true, true, true, false, false, false, false, false, false, false, false, false, false, false, false, false, false, false, false, false, false, false, false, false] rfl rfl (any_of rfl (by kernel_rfl)) (fun _ _ _ h => h) (Or.inr ⟨by rfl, rfl⟩) ?_ ?_
  rotate_left
  · simp only [Act.put, List.setIfInBounds_toArray, List.set_cons_zero, List.set_cons_succ, i64_w, i32_w]
    rfl
  refine pure_ (i := 11) (N := some 29) (v := undef) (a' := ?_) #[true, true, true, true, true, true, true, true, true, true, true, true, false, false, false, false, false, false, false, false, false, false, false, false, false, false, false, false, false, false, false, false] rfl rfl (any_of rfl (by kernel_rfl)) (fun _ _ _ h => h) (Or.inr ⟨by rfl, rfl⟩) ?_ ?_
  rotate_left
  · simp only [Act.put, List.setIfInBounds_toArray, List.set_cons_zero, List.set_cons_succ, i64_w, i32_w]
    rfl
  refine pure_ (i := 12) (N := some 30) (v := undef) (a' := ?_) #[true, true, true, true, true, true, true, true, true, true, true, true, true, false, false, false, false, false, false, false, false, false, false, false, false, false, false, false, false, false, false, false] rfl rfl (any_of rfl (by kernel_rfl)) (fun _ _ _ h => h) (Or.inr ⟨by rfl, rfl⟩) ?_ ?_
  rotate_left
  · simp only [Act.put, List.setIfInBounds_toArray, List.set_cons_zero, List.set_cons_succ, i64_w, i32_w]
    rfl
  refine pure_ (i := 13) (N := some 31) (v := ?_) (a' := ?_) #[true, true, true, true, true, true, true, true, true, true, true, true, true, true, false, false, false, false, false, false, false, false, false, false, false, false, false, false, false, false, false, false] rfl rfl (any_of rfl (by kernel_rfl)) (fun _ _ _ h => h) (Or.inl ⟨by rfl, ?_⟩) ?_ ?_
  rotate_left
  · intro w'
    go_simp
    with_reducible rfl
  rotate_left
  · simp only [Act.put, List.setIfInBounds_toArray, List.set_cons_zero, List.set_cons_succ, i64_w, i32_w]
    rfl
  refine pure_ (i := 14) (N := some 32) (v := ?_) (a' := ?_) #[true, true, true, true, true, true, true, true, true, true, true, true, true, true, true, false, false, false, false, false, false, false, false, false, false, false, false, false, false, false, false, false] rfl rfl (any_of rfl (by kernel_rfl)) (fun _ _ _ h => h) (Or.inl ⟨by rfl, ?_⟩) ?_ ?_
  rotate_left
  · intro w'
    go_simp
    with_reducible rfl
  rotate_left
  · simp only [Act.put, List.setIfInBounds_toArray, List.set_cons_zero, List.set_cons_succ, i64_w, i32_w]
    rfl
  refine pure_ (i := 15) (N := some 33) (v := undef) (a' := ?_) #[true, true, true, true, true, true, true, true, true, true, true, true, true, true, true, true, false, false, false, false, false, false, false, false, false, false, false, false, false, false, false, false] rfl rfl (any_of rfl (by kernel_rfl)) (fun _ _ _ h => h) (Or.inr ⟨by rfl, rfl⟩) ?_ ?_
  rotate_left
  · simp only [Act.put, List.setIfInBounds_toArray, List.set_cons_zero, List.set_cons_succ, i64_w, i32_w]
    rfl
  refine pure_ (i := 16) (N := some 34) (v := undef) (a' := ?_) #[true, true, true, true, true, true, true, true, true, true, true, true, true, true, true, true, true, false, false, false, false, false, false, false, false, false, false, false, false, false, false, false] rfl rfl (any_of rfl (by kernel_rfl)) (fun _ _ _ h => h) (Or.inr ⟨by rfl, rfl⟩) ?_ ?_
  rotate_left
  · simp only [Act.put, List.setIfInBounds_toArray, List.set_cons_zero, List.set_cons_succ, i64_w, i32_w]
    rfl
  refine pure_ (i := 17) (N := some 35) (v := undef) (a' := ?_) #[true, true, true, true, true, true, true, true, true, true, true, true, true, true, true, true, true, true, false, false, false, false, false, false, false, false, false, false, false, false, false, false] rfl rfl (any_of rfl (by kernel_rfl)) (fun _ _ _ h => h) (Or.inr ⟨by rfl, rfl⟩) ?_ ?_
  rotate_left
  · simp only [Act.put, List.setIfInBounds_toArray, List.set_cons_zero, List.set_cons_succ, i64_w, i32_w]
    rfl
  refine pure_ (i := 18) (N := some 36) (v := undef) (a' := ?_) #[true, true, true, true, true, true, true, true, true, true, true, true, true, true, true, true, true, true, true, false, false, false, false, false, false, false, false, false, false, false, false, false] rfl rfl (any_of rfl (by kernel_rfl)) (fun _ _ _ h => h) (Or.inr ⟨by rfl, rfl⟩) ?_ ?_
  rotate_left
  · simp only [Act.put, List.setIfInBounds_toArray, List.set_cons_zero, List.set_cons_succ, i64_w, i32_w]
    rfl
  refine pure_ (i := 19) (N := some 37) (v := ?_) (a' := ?_) #[true, true, true, true, true, true, true, true, true, true, true, true, true, true, true, true, true, true, true, true, false, false, false, false, false, false, false, false, false, false, false, false] rfl rfl (any_of rfl (by kernel_rfl)) (fun _ _ _ h => h) (Or.inl ⟨by rfl, ?_⟩) ?_ ?_
  rotate_left
  · intro w'
    go_simp
    with_reducible rfl
  rotate_left
  · simp only [Act.put, List.setIfInBounds_toArray, List.set_cons_zero, List.set_cons_succ, i64_w, i32_w]
    rfl
  refine pure_ (i := 20) (N := some 38) (v := ?_) (a' := ?_) #[true, true, true, true, true, true, true, true, true, true, true, true, true, true, true, true, true, true, true, true, true, false, false, false, false, false, false, false, false, false, false, false] rfl rfl (any_of rfl (by kernel_rfl)) (fun _ _ _ h => h) (Or.inl ⟨by rfl, ?_⟩) ?_ ?_
  rotate_left
  · intro w'
    go_simp
    with_reducible rfl
  rotate_left
  · simp only [Act.put, List.setIfInBounds_toArray, List.set_cons_zero, List.set_cons_succ, i64_w, i32_w]
    rfl
  refine pure_ (i := 21) (N := some 39) (v := undef) (a' := ?_) #[true, true, true, true, true, true, true, true, true, true, true, true, true, true, true, true, true, true, true, true, true, true, false, false, false, false, false, false, false, false, false, false] rfl rfl (any_of rfl (by kernel_rfl)) (fun _ _ _ h => h) (Or.inr ⟨by rfl, rfl⟩) ?_ ?_
  rotate_left
  · simp only [Act.put, List.setIfInBounds_toArray, List.set_cons_zero, List.set_cons_succ, i64_w, i32_w]
    rfl
  refine pure_ (i := 22) (N := some 40) (v := undef) (a' := ?_) #[true, true, true, true, true, true, true, true, true, true, true, true, true, true, true, true, true, true, true, true, true, true, true, false, false, false, false, false, false, false, false, false] rfl rfl (any_of rfl (by kernel_rfl)) (fun _ _ _ h => h) (Or.inr ⟨by rfl, rfl⟩) ?_ ?_
  rotate_left
  · simp only [Act.put, List.setIfInBounds_toArray, List.set_cons_zero, List.set_cons_succ, i64_w, i32_w]
    rfl
  refine pure_ (i := 23) (N := some 41) (v := undef) (a' := ?_) #[true, true, true, true, true, true, true, true, true, true, true, true, true, true, true, true, true, true, true, true, true, true, true, true, false, false, false, false, false, false, false, false] rfl rfl (any_of rfl (by kernel_rfl)) (fun _ _ _ h => h) (Or.inr ⟨by rfl, rfl⟩) ?_ ?_
  rotate_left
  · simp only [Act.put, List.setIfInBounds_toArray, List.set_cons_zero, List.set_cons_succ, i64_w, i32_w]
    rfl
  refine pure_ (i := 24) (N := some 42) (v := ?_) (a' := ?_) #[true, true, true, true, true, true, true, true, true, true, true, true, true, true, true, true, true, true, true, true, true, true, true, true, true, false, false, false, false, false, false, false] rfl rfl (any_of rfl (by kernel_rfl)) (fun _ _ _ h => h) (Or.inl ⟨by rfl, ?_⟩) ?_ ?_
  rotate_left
  · intro w'
    go_simp
    with_reducible rfl
  rotate_left
  · simp only [Act.put, List.setIfInBounds_toArray, List.set_cons_zero, List.set_cons_succ, i64_w, i32_w]
    rfl
  refine pure_ (i := 25) (N := some 43) (v := ?_) (a' := ?_) #[true, true, true, true, true, true, true, true, true, true, true, true, true, true, true, true, true, true, true, true, true, true, true, true, true, true, false, false, false, false, false, false] rfl rfl (any_of rfl (by kernel_rfl)) (fun _ _ _ h => h) (Or.inl ⟨by rfl, ?_⟩) ?_ ?_
  rotate_left
  · intro w'
    go_simp
    with_reducible rfl
  rotate_left
  · simp only [Act.put, List.setIfInBounds_toArray, List.set_cons_zero, List.set_cons_succ, i64_w, i32_w]
    rfl
  refine pure_ (i := 26) (N := some 44) (v := undef) (a' := ?_) #[true, true, true, true, true, true, true, true, true, true, true, true, true, true, true, true, true, true, true, true, true, true, true, true, true, true, true, false, false, false, false, false] rfl rfl (any_of rfl (by kernel_rfl)) (fun _ _ _ h => h) (Or.inr ⟨by rfl, rfl⟩) ?_ ?_
  rotate_left
  · simp only [Act.put, List.setIfInBounds_toArray, List.set_cons_zero, List.set_cons_succ, i64_w, i32_w]
    rfl
  refine pure_ (i := 27) (N := some 45) (v := undef) (a' := ?_) #[true, true, true, true, true, true, true, true, true, true, true, true, true, true, true, true, true, true, true, true, true, true, true, true, true, true, true, true, false, false, false, false] rfl rfl (any_of rfl (by kernel_rfl)) (fun _ _ _ h => h) (Or.inr ⟨by rfl, rfl⟩) ?_ ?_
  rotate_left
  · simp only [Act.put, List.setIfInBounds_toArray, List.set_cons_zero, List.set_cons_succ, i64_w, i32_w]
    rfl
  refine pure_ (i := 28) (N := some 46) (v := undef) (a' := ?_) #[true, true, true, true, true, true, true, true, true, true, true, true, true, true, true, true, true, true, true, true, true, true, true, true, true, true, true, true, true, false, false, false] rfl rfl (any_of rfl (by kernel_rfl)) (fun _ _ _ h => h) (Or.inr ⟨by rfl, rfl⟩) ?_ ?_
  rotate_left
  · simp only [Act.put, List.setIfInBounds_toArray, List.set_cons_zero, List.set_cons_succ, i64_w, i32_w]
    rfl
  refine pure_ (i := 29) (N := some 47) (v := undef) (a' := ?_) #[true, true, true, true, true, true, true, true, true, true, true, true, true, true, true, true, true, true, true, true, true, true, true, true, true, true, true, true, true, true, false, false] rfl rfl (any_of rfl (by kernel_rfl)) (fun _ _ _ h => h) (Or.inr ⟨by rfl, rfl⟩) ?_ ?_
  rotate_left
  · simp only [Act.put, List.setIfInBounds_toArray, List.set_cons_zero, List.set_cons_succ, i64_w, i32_w]
    rfl
  refine pure_ (i := 30) (N := some 48) (v := undef) (a' := ?_) #[true, true, true, true, true, true, true, true, true, true, true, true, true, true, true, true, true, true, true, true, true, true, true, true, true, true, true, true, true, true, true, false] rfl rfl (any_of rfl (by kernel_rfl)) (fun _ _ _ h => h) (Or.inr ⟨by rfl, rfl⟩) ?_ ?_
  rotate_left
  · simp only [Act.put, List.setIfInBounds_toArray, List.set_cons_zero, List.set_cons_succ, i64_w, i32_w]
    rfl
  refine pure_ (i := 31) (N := some 49) (v := ?_) (a' := ?_) #[true, true, true, true, true, true, true, true, true, true, true, true, true, true, true, true, true, true, true, true, true, true, true, true, true, true, true, true, true, true, true, true] rfl rfl (any_of rfl (by kernel_rfl)) (fun _ _ _ h => h) (Or.inl ⟨by rfl, ?_⟩) ?_ ?_
  rotate_left
  · intro w'
    go_simp
    with_reducible rfl
  rotate_left
  · simp only [Act.put, List.setIfInBounds_toArray, List.set_cons_zero, List.set_cons_succ, i64_w, i32_w]
    rfl
  refine done_ (done_of rfl (by kernel_rfl)) ?_
  go_wp2
  go_ret
  exact ⟨rfl, HB⟩
set_option maxRecDepth 100000 in
set_option maxHeartbeats 4000000 in
theorem ver_bad2 (h1 : l1.length = 18) (h2 : 8 < l2.length) :
    Calls Tryd.prog 33 #[.string a0, .string msg, .agg #[.int .i64 idx, .slice A1 l1.length c1, .slice A2 l2.length c2]] w fun e w' => VerTo w false e w' := by
  have d1 : ((l1.length : Int) == 18) = true := beq_iff_eq.mpr (by omega)
  have d2 : ((l1.length : Int) != 18) = false := bne_eq_false_iff_eq.mpr (by omega)
  have d3 : decide (8 < (l2.length : Int)) = true := decide_eq_true (by omega)
  have d4 : decide (8 < l2.length) = true := decide_eq_true (by omega)
  clear h1 h2
  go_enter Tryd.func33, Tryd.ntmps33
  go_wp2
  have BK := blk_new w (.cells #[.int .i64 idx, .slice A1 l1.length c1, .slice A2 l2.length c2] 35)
  have HB := below_alloc (Below.refl w.heap.size w) (.cells #[.int .i64 idx, .slice A1 l1.length c1, .slice A2 l2.length c2] 35)
  refine start_ (n := 32) (S := fun w' => w'.cell? ⟨w.heap.size, 0, none⟩ = some (.int .i64 idx) ∧ w'.cell? ⟨w.heap.size, 1, none⟩ = some (.slice A1 l1.length c1) ∧ w'.cell? ⟨w.heap.size, 2, none⟩ = some (.slice A2 l2.length c2)) (ds := []) #[false, false, false, false, false, false, false, false, false, false, false, false, false, false, false, false, false, false, false, false, false, false, false, false, false, false, false, false, false, false, false, false] (by kernel_rfl) rfl rfl ⟨(blk_cell (blk_drew BK) 0).trans rfl, (blk_cell (blk_drew BK) 1).trans rfl, (blk_cell (blk_drew BK) 2).trans rfl⟩ (fun hHeld => ?_)
  replace BK := blk_drew BK
  replace HB := below_drew1 HB
  generalize (w.alloc (.cells #[.int .i64 idx, .slice A1 l1.length c1, .slice A2 l2.length c2] 35)).drew = Wd at BK HB hHeld ⊢
  refine pure_ (i := 0) (N := some 18) (v := ?_) (a' := ?_) #[true, false, false, false, false, false, false, false, false, false, false, false, false, false, false, false, false, false, false, false, false, false, false, false, false, false, false, false, false, false, false, false] rfl rfl (any_of rfl (by kernel_rfl)) (fun _ _ _ h => h) (Or.inl ⟨by rfl, ?_⟩) ?_ ?_
  rotate_left
  · intro w'
    go_simp
    with_reducible rfl
  rotate_left
  · simp only [Act.put, List.setIfInBounds_toArray, List.set_cons_zero, List.set_cons_succ, i64_w, i32_w]
    rfl
  refine take_ (i := 1) (N := some 19) (v := ?_) (a' := ?_) #[true, true, false, false, false, false, false, false, false, false, false, false, false, false, false, false, false, false, false, false, false, false, false, false, false, false, false, false, false, false, false, false] rfl rfl (take_of rfl (by kernel_rfl)) (fun _ _ _ h => h) (Or.inl ⟨by rfl, ?_⟩) hHeld ?_ ?_
  rotate_left
  · rintro w' ⟨s0, s1, s2⟩
    go_simp
    with_reducible rfl
  rotate_left
  · simp only [Act.put, List.setIfInBounds_toArray, List.set_cons_zero, List.set_cons_succ, i64_w, i32_w]
    rfl
  refine pure_ (i := 2) (N := some 20) (v := ?_) (a' := ?_) #[true, true, true, false, false, false, false, false, false, false, false, false, false, false, false, false, false, false, false, false, false, false, false, false, false, false, false, false, false, false, false, false] rfl rfl (any_of rfl (by kernel_rfl)) (fun _ _ _ h => h) (Or.inl ⟨by rfl, ?_⟩) ?_ ?_
  rotate_left
  · intro w'
    go_simp
    with_reducible rfl
  rotate_left
  · simp only [Act.put, List.setIfInBounds_toArray, List.set_cons_zero, List.set_cons_succ, i64_w, i32_w]
    rfl
  refine pure_ (i := 3) (N := some 21) (v := ?_) (a' := ?_) #[true, true, true, true, false, false, false, false, false, false, false, false, false, false, false, false, false, false, false, false, false, false, false, false, false, false, false, false, false, false, false, false] rfl rfl (any_of rfl (by kernel_rfl)) (fun _ _ _ h => h) (Or.inl ⟨by rfl, ?_⟩) ?_ ?_
  rotate_left
  · intro w'
    go_simp
    with_reducible rfl
  rotate_left
  · simp only [Act.put, List.setIfInBounds_toArray, List.set_cons_zero, List.set_cons_succ, i64_w, i32_w]
    rfl
  refine pure_ (i := 4) (N := some 22) (v := ?_) (a' := ?_) #[true, true, true, true, true, false, false, false, false, false, false, false, false, false, false, false, false, false, false, false, false, false, false, false, false, false, false, false, false, false, false, false] rfl rfl (any_of rfl (by kernel_rfl)) (fun _ _ _ h => h) (Or.inl ⟨by rfl, ?_⟩) ?_ ?_
  rotate_left
  · intro w'
    go_simp
    with_reducible rfl
  rotate_left
  · simp only [Act.put, List.setIfInBounds_toArray, List.set_cons_zero, List.set_cons_succ, i64_w, i32_w]
    rfl
  refine pure_ (i := 5) (N := some 23) (v := ?_) (a' := ?_) #[true, true, true, true, true, true, false, false, false, false, false, false, false, false, false, false, false, false, false, false, false, false, false, false, false, false, false, false, false, false, false, false] rfl rfl (any_of rfl (by kernel_rfl)) (fun _ _ _ h => h) (Or.inl ⟨by rfl, ?_⟩) ?_ ?_
  rotate_left
  · intro w'
    go_simp
    with_reducible rfl
  rotate_left
  · simp only [Act.put, List.setIfInBounds_toArray, List.set_cons_zero, List.set_cons_succ, i64_w, i32_w]
    rfl
  refine pure_ (i := 6) (N := some 24) (v := ?_) (a' := ?_) #[true, true, true, true, true, true, true, false, false, false, false, false, false, false, false, false, false, false, false, false, false, false, false, false, false, false, false, false, false, false, false, false] rfl rfl (any_of rfl (by kernel_rfl)) (fun _ _ _ h => h) (Or.inl ⟨by rfl, ?_⟩) ?_ ?_
  rotate_left
  · intro w'
    go_simp
    with_reducible rfl
  rotate_left
  · simp only [Act.put, List.setIfInBounds_toArray, List.set_cons_zero, List.set_cons_succ, i64_w, i32_w]
    rfl
  refine pure_ (i := 7) (N := some 25) (v := ?_) (a' := ?_) #[true, true, true, true, true, true, true, true, false, false, false, false, false, false, false, false, false, false, false, false, false, false, false, false, false, false, false, false, false, false, false, false] rfl rfl (any_of rfl (by kernel_rfl)) (fun _ _ _ h => h) (Or.inl ⟨by rfl, ?_⟩) ?_ ?_
  rotate_left
  · intro w'
    go_simp
    with_reducible rfl
  rotate_left
  · simp only [Act.put, List.setIfInBounds_toArray, List.set_cons_zero, List.set_cons_succ, i64_w, i32_w]
    rfl
  refine pure_ (i := 8) (N := some 26) (v := ?_) (a' := ?_) #[true, true, true, true, true, true, true, true, true, false, false, false, false, false, false, false, false, false, false, false, false, false, false, false, false, false, false, false, false, false, false, false] rfl rfl (any_of rfl (by kernel_rfl)) (fun _ _ _ h => h) (Or.inl ⟨by rfl, ?_⟩) ?_ ?_
  rotate_left
  · intro w'
    go_simp
    with_reducible rfl
  rotate_left
  · simp only [Act.put, List.setIfInBounds_toArray, List.set_cons_zero, List.set_cons_succ, i64_w, i32_w]
    rfl
  refine pure_ (i := 9) (N := some 27) (v := undef) (a' := ?_) #[true, true, true, true, true, true, true, true, true, true, false, false, false, false, false, false, false, false, false, false, false, false, false, false, false, false, false, false, false, false, false, false] rfl rfl (any_of rfl (by kernel_rfl)) (fun _ _ _ h => h) (Or.inr ⟨by rfl, rfl⟩) ?_ ?_
  rotate_left
  · simp only [Act.put, List.setIfInBounds_toArray, List.set_cons_zero, List.set_cons_succ, i64_w, i32_w]
    rfl
  refine pure_ (i := 10) (N := some 28) (v := undef) (a' := ?_) #[true, true, true, true, true, true, true, true, true, true, true, false, false, false, false, false, false, false, false, false, false, false, false, false, false, false, false, false, false, false, false, false] rfl rfl (any_of rfl (by kernel_rfl)) (fun _ _ _ h => h) (Or.inr ⟨by rfl, rfl⟩) ?_ ?_
  rotate_left
  · simp only [Act.put, List.setIfInBounds_toArray, List.set_cons_zero, List.set_cons_succ, i64_w, i32_w]
    rfl
  refine pure_ (i := 11) (N := some 29) (v := undef) (a' := ?_) #[true, true, true, true, true, true, true, true, true, true, true, true, false, false, false, false, false, false, false, false, false, false, false, false, false, false, false, false, false, false, false, false] rfl rfl (any_of rfl (by kernel_rfl)) (fun _ _ _ h => h) (Or.inr ⟨by rfl, rfl⟩) ?_ ?_
  rotate_left
  · simp only [Act.put, List.setIfInBounds_toArray, List.set_cons_zero, List.set_cons_succ, i64_w, i32_w]
    rfl
  refine pure_ (i := 12) (N := some 30) (v := undef) (a' := ?_) #[true, true, true, true, true, true, true, true, true, true, true, true, true, false, false, false, false, false, false, false, false, false, false, false, false, false, false, false, false, false, false, false] rfl rfl (any_of rfl (by kernel_rfl)) (fun _ _ _ h => h) (Or.inr ⟨by rfl, rfl⟩) ?_ ?_
  rotate_left
  · simp only [Act.put, List.setIfInBounds_toArray, List.set_cons_zero, List.set_cons_succ, i64_w, i32_w]
    rfl
  refine pure_ (i := 13) (N := some 31) (v := ?_) (a' := ?_) #[true, true, true, true, true, true, true, true, true, true, true, true, true, true, false, false, false, false, false, false, false, false, false, false, false, false, false, false, false, false, false, false] rfl rfl (any_of rfl (by kernel_rfl)) (fun _ _ _ h => h) (Or.inl ⟨by rfl, ?_⟩) ?_ ?_
  rotate_left
  · intro w'
    go_simp
    with_reducible rfl
  rotate_left
  · simp only [Act.put, List.setIfInBounds_toArray, List.set_cons_zero, List.set_cons_succ, i64_w, i32_w]
    rfl
  refine pure_ (i := 14) (N := some 32) (v := ?_) (a' := ?_) #[true, true, true, true, true, true, true, true, true, true, true, true, true, true, true, false, false, false, false, false, false, false, false, false, false, false, false, false, false, false, false, false] rfl rfl (any_of rfl (by kernel_rfl)) (fun _ _ _ h => h) (Or.inl ⟨by rfl, ?_⟩) ?_ ?_
  rotate_left
  · intro w'
    go_simp
    with_reducible rfl
  rotate_left
  · simp only [Act.put, List.setIfInBounds_toArray, List.set_cons_zero, List.set_cons_succ, i64_w, i32_w]
    rfl
  refine pure_ (i := 15) (N := some 33) (v := undef) (a' := ?_) #[true, true, true, true, true, true, true, true, true, true, true, true, true, true, true, true, false, false, false, false, false, false, false, false, false, false, false, false, false, false, false, false] rfl rfl (any_of rfl (by kernel_rfl)) (fun _ _ _ h => h) (Or.inr ⟨by rfl, rfl⟩) ?_ ?_
  rotate_left
  · simp only [Act.put, List.setIfInBounds_toArray, List.set_cons_zero, List.set_cons_succ, i64_w, i32_w]
    rfl
  refine pure_ (i := 16) (N := some 34) (v := undef) (a' := ?_) #[true, true, true, true, true, true, true, true, true, true, true, true, true, true, true, true, true, false, false, false, false, false, false, false, false, false, false, false, false, false, false, false] rfl rfl (any_of rfl (by kernel_rfl)) (fun _ _ _ h => h) (Or.inr ⟨by rfl, rfl⟩) ?_ ?_
  rotate_left
  · simp only [Act.put, List.setIfInBounds_toArray, List.set_cons_zero, List.set_cons_succ, i64_w, i32_w]
    rfl
  refine pure_ (i := 17) (N := some 35) (v := undef) (a' := ?_) #[true, true, true, true, true, true, true, true, true, true, true, true, true, true, true, true, true, true, false, false, false, false, false, false, false, false, false, false, false, false, false, false] rfl rfl (any_of rfl (by kernel_rfl)) (fun _ _ _ h => h) (Or.inr ⟨by rfl, rfl⟩) ?_ ?_
  rotate_left
  · simp only [Act.put, List.setIfInBounds_toArray, List.set_cons_zero, List.set_cons_succ, i64_w, i32_w]
    rfl
  refine pure_ (i := 18) (N := some 36) (v := undef) (a' := ?_) #[true, true, true, true, true, true, true, true, true, true, true, true, true, true, true, true, true, true, true, false, false, false, false, false, false, false, false, false, false, false, false, false] rfl rfl (any_of rfl (by kernel_rfl)) (fun _ _ _ h => h) (Or.inr ⟨by rfl, rfl⟩) ?_ ?_
  rotate_left
  · simp only [Act.put, List.setIfInBounds_toArray, List.set_cons_zero, List.set_cons_succ, i64_w, i32_w]
    rfl
  refine pure_ (i := 19) (N := some 37) (v := ?_) (a' := ?_) #[true, true, true, true, true, true, true, true, true, true, true, true, true, true, true, true, true, true, true, true, false, false, false, false, false, false, false, false, false, false, false, false] rfl rfl (any_of rfl (by kernel_rfl)) (fun _ _ _ h => h) (Or.inl ⟨by rfl, ?_⟩) ?_ ?_
  rotate_left
  · intro w'
    go_simp
    with_reducible rfl
  rotate_left
  · simp only [Act.put, List.setIfInBounds_toArray, List.set_cons_zero, List.set_cons_succ, i64_w, i32_w]
    rfl
  refine pure_ (i := 20) (N := some 38) (v := ?_) (a' := ?_) #[true, true, true, true, true, true, true, true, true, true, true, true, true, true, true, true, true, true, true, true, true, false, false, false, false, false, false, false, false, false, false, false] rfl rfl (any_of rfl (by kernel_rfl)) (fun _ _ _ h => h) (Or.inl ⟨by rfl, ?_⟩) ?_ ?_
  rotate_left
  · intro w'
    go_simp
    with_reducible rfl
  rotate_left
  · simp only [Act.put, List.setIfInBounds_toArray, List.set_cons_zero, List.set_cons_succ, i64_w, i32_w]
    rfl
  refine pure_ (i := 21) (N := some 39) (v := undef) (a' := ?_) #[true, true, true, true, true, true, true, true, true, true, true, true, true, true, true, true, true, true, true, true, true, true, false, false, false, false, false, false, false, false, false, false] rfl rfl (any_of rfl (by kernel_rfl)) (fun _ _ _ h => h) (Or.inr ⟨by rfl, rfl⟩) ?_ ?_
  rotate_left
  · simp only [Act.put, List.setIfInBounds_toArray, List.set_cons_zero, List.set_cons_succ, i64_w, i32_w]
    rfl
  refine pure_ (i := 22) (N := some 40) (v := undef) (a' := ?_) #[true, true, true, true, true, true, true, true, true, true, true, true, true, true, true, true, true, true, true, true, true, true, true, false, false, false, false, false, false, false, false, false] rfl rfl (any_of rfl (by kernel_rfl)) (fun _ _ _ h => h) (Or.inr ⟨by rfl, rfl⟩) ?_ ?_
  rotate_left
  · simp only [Act.put, List.setIfInBounds_toArray, List.set_cons_zero, List.set_cons_succ, i64_w, i32_w]
    rfl
  refine pure_ (i := 23) (N := some 41) (v := undef) (a' := ?_) #[true, true, true, true, true, true, true, true, true, true, true, true, true, true, true, true, true, true, true, true, true, true, true, true, false, false, false, false, false, false, false, false] rfl rfl (any_of rfl (by kernel_rfl)) (fun _ _ _ h => h) (Or.inr ⟨by rfl, rfl⟩) ?_ ?_
  rotate_left
  · simp only [Act.put, List.setIfInBounds_toArray, List.set_cons_zero, List.set_cons_succ, i64_w, i32_w]
    rfl
  refine pure_ (i := 24) (N := some 42) (v := ?_) (a' := ?_) #[true, true, true, true, true, true, true, true, true, true, true, true, true, true, true, true, true, true, true, true, true, true, true, true, true, false, false, false, false, false, false, false] rfl rfl (any_of rfl (by kernel_rfl)) (fun _ _ _ h => h) (Or.inl ⟨by rfl, ?_⟩) ?_ ?_
  rotate_left
  · intro w'
    go_simp
    with_reducible rfl
  rotate_left
  · simp only [Act.put, List.setIfInBounds_toArray, List.set_cons_zero, List.set_cons_succ, i64_w, i32_w]
    rfl
  refine pure_ (i := 25) (N := some 43) (v := ?_) (a' := ?_) #[true, true, true, true, true, true, true, true, true, true, true, true, true, true, true, true, true, true, true, true, true, true, true, true, true, true, false, false, false, false, false, false] rfl rfl (any_of rfl (by kernel_rfl)) (fun _ _ _ h => h) (Or.inl ⟨by rfl, ?_⟩) ?_ ?_
  rotate_left
  · intro w'
    go_simp
    with_reducible rfl
  rotate_left
  · simp only [Act.put, List.setIfInBounds_toArray, List.set_cons_zero, List.set_cons_succ, i64_w, i32_w]
    rfl
  refine pure_ (i := 26) (N := some 44) (v := undef) (a' := ?_) #[true, true, true, true, true, true, true, true, true, true, true, true, true, true, true, true, true, true, true, true, true, true, true, true, true, true, true, false, false, false, false, false] rfl rfl (any_of rfl (by kernel_rfl)) (fun _ _ _ h => h) (Or.inr ⟨by rfl, rfl⟩) ?_ ?_
  rotate_left
  · simp only [Act.put, List.setIfInBounds_toArray, List.set_cons_zero, List.set_cons_succ, i64_w, i32_w]
    rfl
  refine pure_ (i := 27) (N := some 45) (v := undef) (a' := ?_) #[true, true, true, true, true, true, true, true, true, true, true, true, true, true, true, true, true, true, true, true, true, true, true, true, true, true, true, true, false, false, false, false] rfl rfl (any_of rfl (by kernel_rfl)) (fun _ _ _ h => h) (Or.inr ⟨by rfl, rfl⟩) ?_ ?_
  rotate_left
  · simp only [Act.put, List.setIfInBounds_toArray, List.set_cons_zero, List.set_cons_succ, i64_w, i32_w]
    rfl
  refine pure_ (i := 28) (N := some 46) (v := undef) (a' := ?_) #[true, true, true, true, true, true, true, true, true, true, true, true, true, true, true, true, true, true, true, true, true, true, true, true, true, true, true, true, true, false, false, false] rfl rfl (any_of rfl (by kernel_rfl)) (fun _ _ _ h => h) (Or.inr ⟨by rfl, rfl⟩) ?_ ?_
  rotate_left
  · simp only [Act.put, List.setIfInBounds_toArray, List.set_cons_zero, List.set_cons_succ, i64_w, i32_w]
    rfl
  refine pure_ (i := 29) (N := some 47) (v := undef) (a' := ?_) #[true, true, true, true, true, true, true, true, true, true, true, true, true, true, true, true, true, true, true, true, true, true, true, true, true, true, true, true, true, true, false, false] rfl rfl (any_of rfl (by kernel_rfl)) (fun _ _ _ h => h) (Or.inr ⟨by rfl, rfl⟩) ?_ ?_
  rotate_left
  · simp only [Act.put, List.setIfInBounds_toArray, List.set_cons_zero, List.set_cons_succ, i64_w, i32_w]
    rfl
  refine pure_ (i := 30) (N := some 48) (v := undef) (a' := ?_) #[true, true, true, true, true, true, true, true, true, true, true, true, true, true, true, true, true, true, true, true, true, true, true, true, true, true, true, true, true, true, true, false] rfl rfl (any_of rfl (by kernel_rfl)) (fun _ _ _ h => h) (Or.inr ⟨by rfl, rfl⟩) ?_ ?_
  rotate_left
  · simp only [Act.put, List.setIfInBounds_toArray, List.set_cons_zero, List.set_cons_succ, i64_w, i32_w]
    rfl
  refine pure_ (i := 31) (N := some 49) (v := ?_) (a' := ?_) #[true, true, true, true, true, true, true, true, true, true, true, true, true, true, true, true, true, true, true, true, true, true, true, true, true, true, true, true, true, true, true, true] rfl rfl (any_of rfl (by kernel_rfl)) (fun _ _ _ h => h) (Or.inl ⟨by rfl, ?_⟩) ?_ ?_
  rotate_left
  · intro w'
    go_simp
    with_reducible rfl
  rotate_left
  · simp only [Act.put, List.setIfInBounds_toArray, List.set_cons_zero, List.set_cons_succ, i64_w, i32_w]
    rfl
  refine done_ (done_of rfl (by kernel_rfl)) ?_
  go_wp2
  go_ret
  exact ⟨rfl, HB⟩
set_option maxRecDepth 100000 in
set_option maxHeartbeats 4000000 in
theorem ver_bad3 (h1 : l1.length = 18) (h2 : l2.length ≤ 8) (o1 : OddOf w A1 c1 l1 true) :
    Calls Tryd.prog 33 #[.string a0, .string msg, .agg #[.int .i64 idx, .slice A1 l1.length c1, .slice A2 l2.length c2]] w fun e w' => VerTo w false e w' := by
  have d1 : ((l1.length : Int) == 18) = true := beq_iff_eq.mpr (by omega)
  have d2 : ((l1.length : Int) != 18) = false := bne_eq_false_iff_eq.mpr (by omega)
  have d3 : decide (8 < (l2.length : Int)) = false := decide_eq_false (by omega)
  have d4 : decide (8 < l2.length) = false := decide_eq_false (by omega)
  have HO1 := Lib.hid o1
  clear o1
  clear h1 h2
  go_enter Tryd.func33, Tryd.ntmps33
  go_wp2
  have BK := blk_new w (.cells #[.int .i64 idx, .slice A1 l1.length c1, .slice A2 l2.length c2] 35)
  have HB := below_alloc (Below.refl w.heap.size w) (.cells #[.int .i64 idx, .slice A1 l1.length c1, .slice A2 l2.length c2] 35)
  refine start_ (n := 32) (S := fun w' => w'.cell? ⟨w.heap.size, 0, none⟩ = some (.int .i64 idx) ∧ w'.cell? ⟨w.heap.size, 1, none⟩ = some (.slice A1 l1.length c1) ∧ w'.cell? ⟨w.heap.size, 2, none⟩ = some (.slice A2 l2.length c2)) (ds := []) #[false, false, false, false, false, false, false, false, false, false, false, false, false, false, false, false, false, false, false, false, false, false, false, false, false, false, false, false, false, false, false, false] (by kernel_rfl) rfl rfl ⟨(blk_cell (blk_drew BK) 0).trans rfl, (blk_cell (blk_drew BK) 1).trans rfl, (blk_cell (blk_drew BK) 2).trans rfl⟩ (fun hHeld => ?_)
  replace BK := blk_drew BK
  replace HB := below_drew1 HB
  generalize (w.alloc (.cells #[.int .i64 idx, .slice A1 l1.length c1, .slice A2 l2.length c2] 35)).drew = Wd at BK HB hHeld ⊢
  refine pure_ (i := 0) (N := some 18) (v := ?_) (a' := ?_) #[true, false, false, false, false, false, false, false, false, false, false, false, false, false, false, false, false, false, false, false, false, false, false, false, false, false, false, false, false, false, false, false] rfl rfl (any_of rfl (by kernel_rfl)) (fun _ _ _ h => h) (Or.inl ⟨by rfl, ?_⟩) ?_ ?_
  rotate_left
  · intro w'
    go_simp
    with_reducible rfl
  rotate_left
  · simp only [Act.put, List.setIfInBounds_toArray, List.set_cons_zero, List.set_cons_succ, i64_w, i32_w]
    rfl
  refine take_ (i := 1) (N := some 19) (v := ?_) (a' := ?_) #[true, true, false, false, false, false, false, false, false, false, false, false, false, false, false, false, false, false, false, false, false, false, false, false, false, false, false, false, false, false, false, false] rfl rfl (take_of rfl (by kernel_rfl)) (fun _ _ _ h => h) (Or.inl ⟨by rfl, ?_⟩) hHeld ?_ ?_
  rotate_left
  · rintro w' ⟨s0, s1, s2⟩
    go_simp
    with_reducible rfl
  rotate_left
  · simp only [Act.put, List.setIfInBounds_toArray, List.set_cons_zero, List.set_cons_succ, i64_w, i32_w]
    rfl
  refine pure_ (i := 2) (N := some 20) (v := ?_) (a' := ?_) #[true, true, true, false, false, false, false, false, false, false, false, false, false, false, false, false, false, false, false, false, false, false, false, false, false, false, false, false, false, false, false, false] rfl rfl (any_of rfl (by kernel_rfl)) (fun _ _ _ h => h) (Or.inl ⟨by rfl, ?_⟩) ?_ ?_
  rotate_left
  · intro w'
    go_simp
    with_reducible rfl
  rotate_left
  · simp only [Act.put, List.setIfInBounds_toArray, List.set_cons_zero, List.set_cons_succ, i64_w, i32_w]
    rfl
  refine pure_ (i := 3) (N := some 21) (v := ?_) (a' := ?_) #[true, true, true, true, false, false, false, false, false, false, false, false, false, false, false, false, false, false, false, false, false, false, false, false, false, false, false, false, false, false, false, false] rfl rfl (any_of rfl (by kernel_rfl)) (fun _ _ _ h => h) (Or.inl ⟨by rfl, ?_⟩) ?_ ?_
  rotate_left
  · intro w'
    go_simp
    with_reducible rfl
  rotate_left
  · simp only [Act.put, List.setIfInBounds_toArray, List.set_cons_zero, List.set_cons_succ, i64_w, i32_w]
    rfl
  refine pure_ (i := 4) (N := some 22) (v := ?_) (a' := ?_) #[true, true, true, true, true, false, false, false, false, false, false, false, false, false, false, false, false, false, false, false, false, false, false, false, false, false, false, false, false, false, false, false] rfl rfl (any_of rfl (by kernel_rfl)) (fun _ _ _ h => h) (Or.inl ⟨by rfl, ?_⟩) ?_ ?_
  rotate_left
  · intro w'
    go_simp
    with_reducible rfl
  rotate_left
  · simp only [Act.put, List.setIfInBounds_toArray, List.set_cons_zero, List.set_cons_succ, i64_w, i32_w]
    rfl
  refine pure_ (i := 5) (N := some 23) (v := ?_) (a' := ?_) #[true, true, true, true, true, true, false, false, false, false, false, false, false, false, false, false, false, false, false, false, false, false, false, false, false, false, false, false, false, false, false, false] rfl rfl (any_of rfl (by kernel_rfl)) (fun _ _ _ h => h) (Or.inl ⟨by rfl, ?_⟩) ?_ ?_
  rotate_left
  · intro w'
    go_simp
    with_reducible rfl
  rotate_left
  · simp only [Act.put, List.setIfInBounds_toArray, List.set_cons_zero, List.set_cons_succ, i64_w, i32_w]
    rfl
  refine pure_ (i := 6) (N := some 24) (v := ?_) (a' := ?_) #[true, true, true, true, true, true, true, false, false, false, false, false, false, false, false, false, false, false, false, false, false, false, false, false, false, false, false, false, false, false, false, false] rfl rfl (any_of rfl (by kernel_rfl)) (fun _ _ _ h => h) (Or.inl ⟨by rfl, ?_⟩) ?_ ?_
  rotate_left
  · intro w'
    go_simp
    with_reducible rfl
  rotate_left
  · simp only [Act.put, List.setIfInBounds_toArray, List.set_cons_zero, List.set_cons_succ, i64_w, i32_w]
    rfl
  refine pure_ (i := 7) (N := some 25) (v := ?_) (a' := ?_) #[true, true, true, true, true, true, true, true, false, false, false, false, false, false, false, false, false, false, false, false, false, false, false, false, false, false, false, false, false, false, false, false] rfl rfl (any_of rfl (by kernel_rfl)) (fun _ _ _ h => h) (Or.inl ⟨by rfl, ?_⟩) ?_ ?_
  rotate_left
  · intro w'
    go_simp
    with_reducible rfl
  rotate_left
  · simp only [Act.put, List.setIfInBounds_toArray, List.set_cons_zero, List.set_cons_succ, i64_w, i32_w]
    rfl
  refine pure_ (i := 8) (N := some 26) (v := ?_) (a' := ?_) #[true, true, true, true, true, true, true, true, true, false, false, false, false, false, false, false, false, false, false, false, false, false, false, false, false, false, false, false, false, false, false, false] rfl rfl (any_of rfl (by kernel_rfl)) (fun _ _ _ h => h) (Or.inl ⟨by rfl, ?_⟩) ?_ ?_
  rotate_left
  · intro w'
    go_simp
    with_reducible rfl
  rotate_left
  · simp only [Act.put, List.setIfInBounds_toArray, List.set_cons_zero, List.set_cons_succ, i64_w, i32_w]
    rfl
  refine pure_ (i := 9) (N := some 27) (v := ?_) (a' := ?_) #[true, true, true, true, true, true, true, true, true, true, false, false, false, false, false, false, false, false, false, false, false, false, false, false, false, false, false, false, false, false, false, false] rfl rfl (any_of rfl (by kernel_rfl)) (fun _ _ _ h => h) (Or.inl ⟨by rfl, ?_⟩) ?_ ?_
  rotate_left
  · intro w'
    go_simp
    with_reducible rfl
  rotate_left
  · simp only [Act.put, List.setIfInBounds_toArray, List.set_cons_zero, List.set_cons_succ, i64_w, i32_w]
    rfl
  refine pure_ (i := 10) (N := some 28) (v := ?_) (a' := ?_) #[true, true, true, true, true, true, true, true, true, true, true, false, false, false, false, false, false, false, false, false, false, false, false, false, false, false, false, false, false, false, false, false] rfl rfl (any_of rfl (by kernel_rfl)) (fun _ _ _ h => h) (Or.inl ⟨by rfl, ?_⟩) ?_ ?_
  rotate_left
  · intro w'
    go_simp
    with_reducible rfl
  rotate_left
  · simp only [Act.put, List.setIfInBounds_toArray, List.set_cons_zero, List.set_cons_succ, i64_w, i32_w]
    rfl
  refine take_ (i := 11) (N := some 29) (v := ?_) (a' := ?_) #[true, true, true, true, true, true, true, true, true, true, true, true, false, false, false, false, false, false, false, false, false, false, false, false, false, false, false, false, false, false, false, false] rfl rfl (take_of rfl (by kernel_rfl)) (fun _ _ _ h => h) (Or.inl ⟨by rfl, ?_⟩) hHeld ?_ ?_
  rotate_left
  · rintro w' ⟨s0, s1, s2⟩
    go_simp
    with_reducible rfl
  rotate_left
  · simp only [Act.put, List.setIfInBounds_toArray, List.set_cons_zero, List.set_cons_succ, i64_w, i32_w]
    rfl
  refine one_ (i := 12) (N := some 30) #[true, true, true, true, true, true, true, true, true, true, true, true, true, false, false, false, false, false, false, false, false, false, false, false, false, false, false, false, false, false, false, false] rfl rfl (one_of rfl (by kernel_rfl)) (by decide) (fun K hK => ?_)
  refine goesV_ 60 Tryd.func60 (by kernel_rfl) rfl #[.slice A1 l1.length c1] (by rfl) rfl rfl rfl (by (try simp only [List.map_toArray, List.map_cons, List.map_nil]); first | done | rfl) ?_
  refine ((HO1.out Wd HB).mono ?_)
  rintro e W1 ⟨rfl, hb⟩
  refine ⟨_, rfl, ?_⟩
  replace BK := blk_below BK hb
  replace HB := HB.trans (hb.mono HB.size)
  refine hK.out _ _ ⟨(blk_cell BK 0).trans rfl, (blk_cell BK 1).trans rfl, (blk_cell BK 2).trans rfl⟩ (fun hHeld1 => ?_)
  clear hHeld hb
  have hHeld := hHeld1
  clear hHeld1
  clear hK K
  refine norm_ (a' := ?_) ?_ ?_
  rotate_left
  · show Act.put _ (some 30) _ = _
    simp only [Act.put, List.setIfInBounds_toArray, List.set_cons_zero, List.set_cons_succ, i64_w, i32_w]
    rfl
  refine pure_ (i := 13) (N := some 31) (v := ?_) (a' := ?_) #[true, true, true, true, true, true, true, true, true, true, true, true, true, true, false, false, false, false, false, false, false, false, false, false, false, false, false, false, false, false, false, false] rfl rfl (any_of rfl (by kernel_rfl)) (fun _ _ _ h => h) (Or.inl ⟨by rfl, ?_⟩) ?_ ?_
  rotate_left
  · intro w'
    go_simp
    with_reducible rfl
  rotate_left
  · simp only [Act.put, List.setIfInBounds_toArray, List.set_cons_zero, List.set_cons_succ, i64_w, i32_w]
    rfl
  refine pure_ (i := 14) (N := some 32) (v := ?_) (a' := ?_) #[true, true, true, true, true, true, true, true, true, true, true, true, true, true, true, false, false, false, false, false, false, false, false, false, false, false, false, false, false, false, false, false] rfl rfl (any_of rfl (by kernel_rfl)) (fun _ _ _ h => h) (Or.inl ⟨by rfl, ?_⟩) ?_ ?_
  rotate_left
  · intro w'
    go_simp
    with_reducible rfl
  rotate_left
  · simp only [Act.put, List.setIfInBounds_toArray, List.set_cons_zero, List.set_cons_succ, i64_w, i32_w]
    rfl
  refine pure_ (i := 15) (N := some 33) (v := undef) (a' := ?_) #[true, true, true, true, true, true, true, true, true, true, true, true, true, true, true, true, false, false, false, false, false, false, false, false, false, false, false, false, false, false, false, false] rfl rfl (any_of rfl (by kernel_rfl)) (fun _ _ _ h => h) (Or.inr ⟨by rfl, rfl⟩) ?_ ?_
  rotate_left
  · simp only [Act.put, List.setIfInBounds_toArray, List.set_cons_zero, List.set_cons_succ, i64_w, i32_w]
    rfl
  refine pure_ (i := 16) (N := some 34) (v := undef) (a' := ?_) #[true, true, true, true, true, true, true, true, true, true, true, true, true, true, true, true, true, false, false, false, false, false, false, false, false, false, false, false, false, false, false, false] rfl rfl (any_of rfl (by kernel_rfl)) (fun _ _ _ h => h) (Or.inr ⟨by rfl, rfl⟩) ?_ ?_
  rotate_left
  · simp only [Act.put, List.setIfInBounds_toArray, List.set_cons_zero, List.set_cons_succ, i64_w, i32_w]
    rfl
  refine pure_ (i := 17) (N := some 35) (v := undef) (a' := ?_) #[true, true, true, true, true, true, true, true, true, true, true, true, true, true, true, true, true, true, false, false, false, false, false, false, false, false, false, false, false, false, false, false] rfl rfl (any_of rfl (by kernel_rfl)) (fun _ _ _ h => h) (Or.inr ⟨by rfl, rfl⟩) ?_ ?_
  rotate_left
  · simp only [Act.put, List.setIfInBounds_toArray, List.set_cons_zero, List.set_cons_succ, i64_w, i32_w]
    rfl
  refine pure_ (i := 18) (N := some 36) (v := undef) (a' := ?_) #[true, true, true, true, true, true, true, true, true, true, true, true, true, true, true, true, true, true, true, false, false, false, false, false, false, false, false, false, false, false, false, false] rfl rfl (any_of rfl (by kernel_rfl)) (fun _ _ _ h => h) (Or.inr ⟨by rfl, rfl⟩) ?_ ?_
  rotate_left
  · simp only [Act.put, List.setIfInBounds_toArray, List.set_cons_zero, List.set_cons_succ, i64_w, i32_w]
    rfl
  refine pure_ (i := 19) (N := some 37) (v := ?_) (a' := ?_) #[true, true, true, true, true, true, true, true, true, true, true, true, true, true, true, true, true, true, true, true, false, false, false, false, false, false, false, false, false, false, false, false] rfl rfl (any_of rfl (by kernel_rfl)) (fun _ _ _ h => h) (Or.inl ⟨by rfl, ?_⟩) ?_ ?_
  rotate_left
  · intro w'
    go_simp
    with_reducible rfl
  rotate_left
  · simp only [Act.put, List.setIfInBounds_toArray, List.set_cons_zero, List.set_cons_succ, i64_w, i32_w]
    rfl
  refine pure_ (i := 20) (N := some 38) (v := ?_) (a' := ?_) #[true, true, true, true, true, true, true, true, true, true, true, true, true, true, true, true, true, true, true, true, true, false, false, false, false, false, false, false, false, false, false, false] rfl rfl (any_of rfl (by kernel_rfl)) (fun _ _ _ h => h) (Or.inl ⟨by rfl, ?_⟩) ?_ ?_
  rotate_left
  · intro w'
    go_simp
    with_reducible rfl
  rotate_left
  · simp only [Act.put, List.setIfInBounds_toArray, List.set_cons_zero, List.set_cons_succ, i64_w, i32_w]
    rfl
  refine pure_ (i := 21) (N := some 39) (v := undef) (a' := ?_) #[true, true, true, true, true, true, true, true, true, true, true, true, true, true, true, true, true, true, true, true, true, true, false, false, false, false, false, false, false, false, false, false] rfl rfl (any_of rfl (by kernel_rfl)) (fun _ _ _ h => h) (Or.inr ⟨by rfl, rfl⟩) ?_ ?_
  rotate_left
  · simp only [Act.put, List.setIfInBounds_toArray, List.set_cons_zero, List.set_cons_succ, i64_w, i32_w]
    rfl
  refine pure_ (i := 22) (N := some 40) (v := undef) (a' := ?_) #[true, true, true, true, true, true, true, true, true, true, true, true, true, true, true, true, true, true, true, true, true, true, true, false, false, false, false, false, false, false, false, false] rfl rfl (any_of rfl (by kernel_rfl)) (fun _ _ _ h => h) (Or.inr ⟨by rfl, rfl⟩) ?_ ?_
  rotate_left
  · simp only [Act.put, List.setIfInBounds_toArray, List.set_cons_zero, List.set_cons_succ, i64_w, i32_w]
    rfl
  refine pure_ (i := 23) (N := some 41) (v := undef) (a' := ?_) #[true, true, true, true, true, true, true, true, true, true, true, true, true, true, true, true, true, true, true, true, true, true, true, true, false, false, false, false, false, false, false, false] rfl rfl (any_of rfl (by kernel_rfl)) (fun _ _ _ h => h) (Or.inr ⟨by rfl, rfl⟩) ?_ ?_
  rotate_left
  · simp only [Act.put, List.setIfInBounds_toArray, List.set_cons_zero, List.set_cons_succ, i64_w, i32_w]
    rfl
  refine pure_ (i := 24) (N := some 42) (v := ?_) (a' := ?_) #[true, true, true, true, true, true, true, true, true, true, true, true, true, true, true, true, true, true, true, true, true, true, true, true, true, false, false, false, false, false, false, false] rfl rfl (any_of rfl (by kernel_rfl)) (fun _ _ _ h => h) (Or.inl ⟨by rfl, ?_⟩) ?_ ?_
  rotate_left
  · intro w'
    go_simp
    with_reducible rfl
  rotate_left
  · simp only [Act.put, List.setIfInBounds_toArray, List.set_cons_zero, List.set_cons_succ, i64_w, i32_w]
    rfl
  refine pure_ (i := 25) (N := some 43) (v := ?_) (a' := ?_) #[true, true, true, true, true, true, true, true, true, true, true, true, true, true, true, true, true, true, true, true, true, true, true, true, true, true, false, false, false, false, false, false] rfl rfl (any_of rfl (by kernel_rfl)) (fun _ _ _ h => h) (Or.inl ⟨by rfl, ?_⟩) ?_ ?_
  rotate_left
  · intro w'
    go_simp
    with_reducible rfl
  rotate_left
  · simp only [Act.put, List.setIfInBounds_toArray, List.set_cons_zero, List.set_cons_succ, i64_w, i32_w]
    rfl
  refine pure_ (i := 26) (N := some 44) (v := undef) (a' := ?_) #[true, true, true, true, true, true, true, true, true, true, true, true, true, true, true, true, true, true, true, true, true, true, true, true, true, true, true, false, false, false, false, false] rfl rfl (any_of rfl (by kernel_rfl)) (fun _ _ _ h => h) (Or.inr ⟨by rfl, rfl⟩) ?_ ?_
  rotate_left
  · simp only [Act.put, List.setIfInBounds_toArray, List.set_cons_zero, List.set_cons_succ, i64_w, i32_w]
    rfl
  refine pure_ (i := 27) (N := some 45) (v := undef) (a' := ?_) #[true, true, true, true, true, true, true, true, true, true, true, true, true, true, true, true, true, true, true, true, true, true, true, true, true, true, true, true, false, false, false, false] rfl rfl (any_of rfl (by kernel_rfl)) (fun _ _ _ h => h) (Or.inr ⟨by rfl, rfl⟩) ?_ ?_
  rotate_left
  · simp only [Act.put, List.setIfInBounds_toArray, List.set_cons_zero, List.set_cons_succ, i64_w, i32_w]
    rfl
  refine pure_ (i := 28) (N := some 46) (v := undef) (a' := ?_) #[true, true, true, true, true, true, true, true, true, true, true, true, true, true, true, true, true, true, true, true, true, true, true, true, true, true, true, true, true, false, false, false] rfl rfl (any_of rfl (by kernel_rfl)) (fun _ _ _ h => h) (Or.inr ⟨by rfl, rfl⟩) ?_ ?_
  rotate_left
  · simp only [Act.put, List.setIfInBounds_toArray, List.set_cons_zero, List.set_cons_succ, i64_w, i32_w]
    rfl
  refine pure_ (i := 29) (N := some 47) (v := undef) (a' := ?_) #[true, true, true, true, true, true, true, true, true, true, true, true, true, true, true, true, true, true, true, true, true, true, true, true, true, true, true, true, true, true, false, false] rfl rfl (any_of rfl (by kernel_rfl)) (fun _ _ _ h => h) (Or.inr ⟨by rfl, rfl⟩) ?_ ?_
  rotate_left
  · simp only [Act.put, List.setIfInBounds_toArray, List.set_cons_zero, List.set_cons_succ, i64_w, i32_w]
    rfl
  refine pure_ (i := 30) (N := some 48) (v := undef) (a' := ?_) #[true, true, true, true, true, true, true, true, true, true, true, true, true, true, true, true, true, true, true, true, true, true, true, true, true, true, true, true, true, true, true, false] rfl rfl (any_of rfl (by kernel_rfl)) (fun _ _ _ h => h) (Or.inr ⟨by rfl, rfl⟩) ?_ ?_
  rotate_left
  · simp only [Act.put, List.setIfInBounds_toArray, List.set_cons_zero, List.set_cons_succ, i64_w, i32_w]
    rfl
  refine pure_ (i := 31) (N := some 49) (v := ?_) (a' := ?_) #[true, true, true, true, true, true, true, true, true, true, true, true, true, true, true, true, true, true, true, true, true, true, true, true, true, true, true, true, true, true, true, true] rfl rfl (any_of rfl (by kernel_rfl)) (fun _ _ _ h => h) (Or.inl ⟨by rfl, ?_⟩) ?_ ?_
  rotate_left
  · intro w'
    go_simp
    with_reducible rfl
  rotate_left
  · simp only [Act.put, List.setIfInBounds_toArray, List.set_cons_zero, List.set_cons_succ, i64_w, i32_w]
    rfl
  refine done_ (done_of rfl (by kernel_rfl)) ?_
  go_wp2
  go_ret
  exact ⟨rfl, HB⟩
set_option maxRecDepth 100000 in
set_option maxHeartbeats 4000000 in
theorem ver_bad4 (h1 : l1.length = 18) (h2 : l2.length ≤ 8) (o1 : OddOf w A1 c1 l1 false) (o2 : OddOf w A2 c2 l2 true) :
    Calls Tryd.prog 33 #[.string a0, .string msg, .agg #[.int .i64 idx, .slice A1 l1.length c1, .slice A2 l2.length c2]] w fun e w' => VerTo w false e w' := by
  have d1 : ((l1.length : Int) == 18) = true := beq_iff_eq.mpr (by omega)
  have d2 : ((l1.length : Int) != 18) = false := bne_eq_false_iff_eq.mpr (by omega)
  have d3 : decide (8 < (l2.length : Int)) = false := decide_eq_false (by omega)
  have d4 : decide (8 < l2.length) = false := decide_eq_false (by omega)
  have HO1 := Lib.hid o1
  clear o1
  have HO2 := Lib.hid o2
  clear o2
  clear h1 h2
  go_enter Tryd.func33, Tryd.ntmps33
  go_wp2
  have BK := blk_new w (.cells #[.int .i64 idx, .slice A1 l1.length c1, .slice A2 l2.length c2] 35)
  have HB := below_alloc (Below.refl w.heap.size w) (.cells #[.int .i64 idx, .slice A1 l1.length c1, .slice A2 l2.length c2] 35)
  refine start_ (n := 32) (S := fun w' => w'.cell? ⟨w.heap.size, 0, none⟩ = some (.int .i64 idx) ∧ w'.cell? ⟨w.heap.size, 1, none⟩ = some (.slice A1 l1.length c1) ∧ w'.cell? ⟨w.heap.size, 2, none⟩ = some (.slice A2 l2.length c2)) (ds := []) #[false, false, false, false, false, false, false, false, false, false, false, false, false, false, false, false, false, false, false, false, false, false, false, false, false, false, false, false, false, false, false, false] (by kernel_rfl) rfl rfl ⟨(blk_cell (blk_drew BK) 0).trans rfl, (blk_cell (blk_drew BK) 1).trans rfl, (blk_cell (blk_drew BK) 2).trans rfl⟩ (fun hHeld => ?_)
  replace BK := blk_drew BK
  replace HB := below_drew1 HB
  generalize (w.alloc (.cells #[.int .i64 idx, .slice A1 l1.length c1, .slice A2 l2.length c2] 35)).drew = Wd at BK HB hHeld ⊢
  refine pure_ (i := 0) (N := some 18) (v := ?_) (a' := ?_) #[true, false, false, false, false, false, false, false, false, false, false, false, false, false, false, false, false, false, false, false, false, false, false, false, false, false, false, false, false, false, false, false] rfl rfl (any_of rfl (by kernel_rfl)) (fun _ _ _ h => h) (Or.inl ⟨by rfl, ?_⟩) ?_ ?_
  rotate_left
  · intro w'
    go_simp
    with_reducible rfl
  rotate_left
  · simp only [Act.put, List.setIfInBounds_toArray, List.set_cons_zero, List.set_cons_succ, i64_w, i32_w]
    rfl
  refine take_ (i := 1) (N := some 19) (v := ?_) (a' := ?_) #[true, true, false, false, false, false, false, false, false, false, false, false, false, false, false, false, false, false, false, false, false, false, false, false, false, false, false, false, false, false, false, false] rfl rfl (take_of rfl (by kernel_rfl)) (fun _ _ _ h => h) (Or.inl ⟨by rfl, ?_⟩) hHeld ?_ ?_
  rotate_left
  · rintro w' ⟨s0, s1, s2⟩
    go_simp
    with_reducible rfl
  rotate_left
  · simp only [Act.put, List.setIfInBounds_toArray, List.set_cons_zero, List.set_cons_succ, i64_w, i32_w]
    rfl
  refine pure_ (i := 2) (N := some 20) (v := ?_) (a' := ?_) #[true, true, true, false, false, false, false, false, false, false, false, false, false, false, false, false, false, false, false, false, false, false, false, false, false, false, false, false, false, false, false, false] rfl rfl (any_of rfl (by kernel_rfl)) (fun _ _ _ h => h) (Or.inl ⟨by rfl, ?_⟩) ?_ ?_
  rotate_left
  · intro w'
    go_simp
    with_reducible rfl
  rotate_left
  · simp only [Act.put, List.setIfInBounds_toArray, List.set_cons_zero, List.set_cons_succ, i64_w, i32_w]
    rfl
  refine pure_ (i := 3) (N := some 21) (v := ?_) (a' := ?_) #[true, true, true, true, false, false, false, false, false, false, false, false, false, false, false, false, false, false, false, false, false, false, false, false, false, false, false, false, false, false, false, false] rfl rfl (any_of rfl (by kernel_rfl)) (fun _ _ _ h => h) (Or.inl ⟨by rfl, ?_⟩) ?_ ?_
  rotate_left
  · intro w'
    go_simp
    with_reducible rfl
  rotate_left
  · simp only [Act.put, List.setIfInBounds_toArray, List.set_cons_zero, List.set_cons_succ, i64_w, i32_w]
    rfl
  refine pure_ (i := 4) (N := some 22) (v := ?_) (a' := ?_) #[true, true, true, true, true, false, false, false, false, false, false, false, false, false, false, false, false, false, false, false, false, false, false, false, false, false, false, false, false, false, false, false] rfl rfl (any_of rfl (by kernel_rfl)) (fun _ _ _ h => h) (Or.inl ⟨by rfl, ?_⟩) ?_ ?_
  rotate_left
  · intro w'
    go_simp
    with_reducible rfl
  rotate_left
  · simp only [Act.put, List.setIfInBounds_toArray, List.set_cons_zero, List.set_cons_succ, i64_w, i32_w]
    rfl
  refine pure_ (i := 5) (N := some 23) (v := ?_) (a' := ?_) #[true, true, true, true, true, true, false, false, false, false, false, false, false, false, false, false, false, false, false, false, false, false, false, false, false, false, false, false, false, false, false, false] rfl rfl (any_of rfl (by kernel_rfl)) (fun _ _ _ h => h) (Or.inl ⟨by rfl, ?_⟩) ?_ ?_
  rotate_left
  · intro w'
    go_simp
    with_reducible rfl
  rotate_left
  · simp only [Act.put, List.setIfInBounds_toArray, List.set_cons_zero, List.set_cons_succ, i64_w, i32_w]
    rfl
  refine pure_ (i := 6) (N := some 24) (v := ?_) (a' := ?_) #[true, true, true, true, true, true, true, false, false, false, false, false, false, false, false, false, false, false, false, false, false, false, false, false, false, false, false, false, false, false, false, false] rfl rfl (any_of rfl (by kernel_rfl)) (fun _ _ _ h => h) (Or.inl ⟨by rfl, ?_⟩) ?_ ?_
  rotate_left
  · intro w'
    go_simp
    with_reducible rfl
  rotate_left
  · simp only [Act.put, List.setIfInBounds_toArray, List.set_cons_zero, List.set_cons_succ, i64_w, i32_w]
    rfl
  refine pure_ (i := 7) (N := some 25) (v := ?_) (a' := ?_) #[true, true, true, true, true, true, true, true, false, false, false, false, false, false, false, false, false, false, false, false, false, false, false, false, false, false, false, false, false, false, false, false] rfl rfl (any_of rfl (by kernel_rfl)) (fun _ _ _ h => h) (Or.inl ⟨by rfl, ?_⟩) ?_ ?_
  rotate_left
  · intro w'
    go_simp
    with_reducible rfl
  rotate_left
  · simp only [Act.put, List.setIfInBounds_toArray, List.set_cons_zero, List.set_cons_succ, i64_w, i32_w]
    rfl
  refine pure_ (i := 8) (N := some 26) (v := ?_) (a' := ?_) #[true, true, true, true, true, true, true, true, true, false, false, false, false, false, false, false, false, false, false, false, false, false, false, false, false, false, false, false, false, false, false, false] rfl rfl (any_of rfl (by kernel_rfl)) (fun _ _ _ h => h) (Or.inl ⟨by rfl, ?_⟩) ?_ ?_
  rotate_left
  · intro w'
    go_simp
    with_reducible rfl
  rotate_left
  · simp only [Act.put, List.setIfInBounds_toArray, List.set_cons_zero, List.set_cons_succ, i64_w, i32_w]
    rfl
  refine pure_ (i := 9) (N := some 27) (v := ?_) (a' := ?_) #[true, true, true, true, true, true, true, true, true, true, false, false, false, false, false, false, false, false, false, false, false, false, false, false, false, false, false, false, false, false, false, false] rfl rfl (any_of rfl (by kernel_rfl)) (fun _ _ _ h => h) (Or.inl ⟨by rfl, ?_⟩) ?_ ?_
  rotate_left
  · intro w'
    go_simp
    with_reducible rfl
  rotate_left
  · simp only [Act.put, List.setIfInBounds_toArray, List.set_cons_zero, List.set_cons_succ, i64_w, i32_w]
    rfl
  refine pure_ (i := 10) (N := some 28) (v := ?_) (a' := ?_) #[true, true, true, true, true, true, true, true, true, true, true, false, false, false, false, false, false, false, false, false, false, false, false, false, false, false, false, false, false, false, false, false] rfl rfl (any_of rfl (by kernel_rfl)) (fun _ _ _ h => h) (Or.inl ⟨by rfl, ?_⟩) ?_ ?_
  rotate_left
  · intro w'
    go_simp
    with_reducible rfl
  rotate_left
  · simp only [Act.put, List.setIfInBounds_toArray, List.set_cons_zero, List.set_cons_succ, i64_w, i32_w]
    rfl
  refine take_ (i := 11) (N := some 29) (v := ?_) (a' := ?_) #[true, true, true, true, true, true, true, true, true, true, true, true, false, false, false, false, false, false, false, false, false, false, false, false, false, false, false, false, false, false, false, false] rfl rfl (take_of rfl (by kernel_rfl)) (fun _ _ _ h => h) (Or.inl ⟨by rfl, ?_⟩) hHeld ?_ ?_
  rotate_left
  · rintro w' ⟨s0, s1, s2⟩
    go_simp
    with_reducible rfl
  rotate_left
  · simp only [Act.put, List.setIfInBounds_toArray, List.set_cons_zero, List.set_cons_succ, i64_w, i32_w]
    rfl
  refine one_ (i := 12) (N := some 30) #[true, true, true, true, true, true, true, true, true, true, true, true, true, false, false, false, false, false, false, false, false, false, false, false, false, false, false, false, false, false, false, false] rfl rfl (one_of rfl (by kernel_rfl)) (by decide) (fun K hK => ?_)
  refine goesV_ 60 Tryd.func60 (by kernel_rfl) rfl #[.slice A1 l1.length c1] (by rfl) rfl rfl rfl (by (try simp only [List.map_toArray, List.map_cons, List.map_nil]); first | done | rfl) ?_
  refine ((HO1.out Wd HB).mono ?_)
  rintro e W1 ⟨rfl, hb⟩
  refine ⟨_, rfl, ?_⟩
  replace BK := blk_below BK hb
  replace HB := HB.trans (hb.mono HB.size)
  refine hK.out _ _ ⟨(blk_cell BK 0).trans rfl, (blk_cell BK 1).trans rfl, (blk_cell BK 2).trans rfl⟩ (fun hHeld1 => ?_)
  clear hHeld hb
  have hHeld := hHeld1
  clear hHeld1
  clear hK K
  refine norm_ (a' := ?_) ?_ ?_
  rotate_left
  · show Act.put _ (some 30) _ = _
    simp only [Act.put, List.setIfInBounds_toArray, List.set_cons_zero, List.set_cons_succ, i64_w, i32_w]
    rfl
  refine pure_ (i := 13) (N := some 31) (v := ?_) (a' := ?_) #[true, true, true, true, true, true, true, true, true, true, true, true, true, true, false, false, false, false, false, false, false, false, false, false, false, false, false, false, false, false, false, false] rfl rfl (any_of rfl (by kernel_rfl)) (fun _ _ _ h => h) (Or.inl ⟨by rfl, ?_⟩) ?_ ?_
  rotate_left
  · intro w'
    go_simp
    with_reducible rfl
  rotate_left
  · simp only [Act.put, List.setIfInBounds_toArray, List.set_cons_zero, List.set_cons_succ, i64_w, i32_w]
    rfl
  refine pure_ (i := 14) (N := some 32) (v := ?_) (a' := ?_) #[true, true, true, true, true, true, true, true, true, true, true, true, true, true, true, false, false, false, false, false, false, false, false, false, false, false, false, false, false, false, false, false] rfl rfl (any_of rfl (by kernel_rfl)) (fun _ _ _ h => h) (Or.inl ⟨by rfl, ?_⟩) ?_ ?_
  rotate_left
  · intro w'
    go_simp
    with_reducible rfl
  rotate_left
  · simp only [Act.put, List.setIfInBounds_toArray, List.set_cons_zero, List.set_cons_succ, i64_w, i32_w]
    rfl
  refine pure_ (i := 15) (N := some 33) (v := ?_) (a' := ?_) #[true, true, true, true, true, true, true, true, true, true, true, true, true, true, true, true, false, false, false, false, false, false, false, false, false, false, false, false, false, false, false, false] rfl rfl (any_of rfl (by kernel_rfl)) (fun _ _ _ h => h) (Or.inl ⟨by rfl, ?_⟩) ?_ ?_
  rotate_left
  · intro w'
    go_simp
    with_reducible rfl
  rotate_left
  · simp only [Act.put, List.setIfInBounds_toArray, List.set_cons_zero, List.set_cons_succ, i64_w, i32_w]
    rfl
  refine pure_ (i := 16) (N := some 34) (v := ?_) (a' := ?_) #[true, true, true, true, true, true, true, true, true, true, true, true, true, true, true, true, true, false, false, false, false, false, false, false, false, false, false, false, false, false, false, false] rfl rfl (any_of rfl (by kernel_rfl)) (fun _ _ _ h => h) (Or.inl ⟨by rfl, ?_⟩) ?_ ?_
  rotate_left
  · intro w'
    go_simp
    with_reducible rfl
  rotate_left
  · simp only [Act.put, List.setIfInBounds_toArray, List.set_cons_zero, List.set_cons_succ, i64_w, i32_w]
    rfl
  refine take_ (i := 17) (N := some 35) (v := ?_) (a' := ?_) #[true, true, true, true, true, true, true, true, true, true, true, true, true, true, true, true, true, true, false, false, false, false, false, false, false, false, false, false, false, false, false, false] rfl rfl (take_of rfl (by kernel_rfl)) (fun _ _ _ h => h) (Or.inl ⟨by rfl, ?_⟩) hHeld ?_ ?_
  rotate_left
  · rintro w' ⟨s0, s1, s2⟩
    go_simp
    with_reducible rfl
  rotate_left
  · simp only [Act.put, List.setIfInBounds_toArray, List.set_cons_zero, List.set_cons_succ, i64_w, i32_w]
    rfl
  refine one_ (i := 18) (N := some 36) #[true, true, true, true, true, true, true, true, true, true, true, true, true, true, true, true, true, true, true, false, false, false, false, false, false, false, false, false, false, false, false, false] rfl rfl (one_of rfl (by kernel_rfl)) (by decide) (fun K hK => ?_)
  refine goesV_ 60 Tryd.func60 (by kernel_rfl) rfl #[.slice A2 l2.length c2] (by rfl) rfl rfl rfl (by (try simp only [List.map_toArray, List.map_cons, List.map_nil]); first | done | rfl) ?_
  refine ((HO2.out W1 HB).mono ?_)
  rintro e W2 ⟨rfl, hb⟩
  refine ⟨_, rfl, ?_⟩
  replace BK := blk_below BK hb
  replace HB := HB.trans (hb.mono HB.size)
  refine hK.out _ _ ⟨(blk_cell BK 0).trans rfl, (blk_cell BK 1).trans rfl, (blk_cell BK 2).trans rfl⟩ (fun hHeld1 => ?_)
  clear hHeld hb
  have hHeld := hHeld1
  clear hHeld1
  clear hK K
  refine norm_ (a' := ?_) ?_ ?_
  rotate_left
  · show Act.put _ (some 36) _ = _
    simp only [Act.put, List.setIfInBounds_toArray, List.set_cons_zero, List.set_cons_succ, i64_w, i32_w]
    rfl
  refine pure_ (i := 19) (N := some 37) (v := ?_) (a' := ?_) #[true, true, true, true, true, true, true, true, true, true, true, true, true, true, true, true, true, true, true, true, false, false, false, false, false, false, false, false, false, false, false, false] rfl rfl (any_of rfl (by kernel_rfl)) (fun _ _ _ h => h) (Or.inl ⟨by rfl, ?_⟩) ?_ ?_
  rotate_left
  · intro w'
    go_simp
    with_reducible rfl
  rotate_left
  · simp only [Act.put, List.setIfInBounds_toArray, List.set_cons_zero, List.set_cons_succ, i64_w, i32_w]
    rfl
  refine pure_ (i := 20) (N := some 38) (v := ?_) (a' := ?_) #[true, true, true, true, true, true, true, true, true, true, true, true, true, true, true, true, true, true, true, true, true, false, false, false, false, false, false, false, false, false, false, false] rfl rfl (any_of rfl (by kernel_rfl)) (fun _ _ _ h => h) (Or.inl ⟨by rfl, ?_⟩) ?_ ?_
  rotate_left
  · intro w'
    go_simp
    with_reducible rfl
  rotate_left
  · simp only [Act.put, List.setIfInBounds_toArray, List.set_cons_zero, List.set_cons_succ, i64_w, i32_w]
    rfl
  refine pure_ (i := 21) (N := some 39) (v := undef) (a' := ?_) #[true, true, true, true, true, true, true, true, true, true, true, true, true, true, true, true, true, true, true, true, true, true, false, false, false, false, false, false, false, false, false, false] rfl rfl (any_of rfl (by kernel_rfl)) (fun _ _ _ h => h) (Or.inr ⟨by rfl, rfl⟩) ?_ ?_
  rotate_left
  · simp only [Act.put, List.setIfInBounds_toArray, List.set_cons_zero, List.set_cons_succ, i64_w, i32_w]
    rfl
  refine pure_ (i := 22) (N := some 40) (v := undef) (a' := ?_) #[true, true, true, true, true, true, true, true, true, true, true, true, true, true, true, true, true, true, true, true, true, true, true, false, false, false, false, false, false, false, false, false] rfl rfl (any_of rfl (by kernel_rfl)) (fun _ _ _ h => h) (Or.inr ⟨by rfl, rfl⟩) ?_ ?_
  rotate_left
  · simp only [Act.put, List.setIfInBounds_toArray, List.set_cons_zero, List.set_cons_succ, i64_w, i32_w]
    rfl
  refine pure_ (i := 23) (N := some 41) (v := undef) (a' := ?_) #[true, true, true, true, true, true, true, true, true, true, true, true, true, true, true, true, true, true, true, true, true, true, true, true, false, false, false, false, false, false, false, false] rfl rfl (any_of rfl (by kernel_rfl)) (fun _ _ _ h => h) (Or.inr ⟨by rfl, rfl⟩) ?_ ?_
  rotate_left
  · simp only [Act.put, List.setIfInBounds_toArray, List.set_cons_zero, List.set_cons_succ, i64_w, i32_w]
    rfl
  refine pure_ (i := 24) (N := some 42) (v := ?_) (a' := ?_) #[true, true, true, true, true, true, true, true, true, true, true, true, true, true, true, true, true, true, true, true, true, true, true, true, true, false, false, false, false, false, false, false] rfl rfl (any_of rfl (by kernel_rfl)) (fun _ _ _ h => h) (Or.inl ⟨by rfl, ?_⟩) ?_ ?_
  rotate_left
  · intro w'
    go_simp
    with_reducible rfl
  rotate_left
  · simp only [Act.put, List.setIfInBounds_toArray, List.set_cons_zero, List.set_cons_succ, i64_w, i32_w]
    rfl
  refine pure_ (i := 25) (N := some 43) (v := ?_) (a' := ?_) #[true, true, true, true, true, true, true, true, true, true, true, true, true, true, true, true, true, true, true, true, true, true, true, true, true, true, false, false, false, false, false, false] rfl rfl (any_of rfl (by kernel_rfl)) (fun _ _ _ h => h) (Or.inl ⟨by rfl, ?_⟩) ?_ ?_
  rotate_left
  · intro w'
    go_simp
    with_reducible rfl
  rotate_left
  · simp only [Act.put, List.setIfInBounds_toArray, List.set_cons_zero, List.set_cons_succ, i64_w, i32_w]
    rfl
  refine pure_ (i := 26) (N := some 44) (v := undef) (a' := ?_) #[true, true, true, true, true, true, true, true, true, true, true, true, true, true, true, true, true, true, true, true, true, true, true, true, true, true, true, false, false, false, false, false] rfl rfl (any_of rfl (by kernel_rfl)) (fun _ _ _ h => h) (Or.inr ⟨by rfl, rfl⟩) ?_ ?_
  rotate_left
  · simp only [Act.put, List.setIfInBounds_toArray, List.set_cons_zero, List.set_cons_succ, i64_w, i32_w]
    rfl
  refine pure_ (i := 27) (N := some 45) (v := undef) (a' := ?_) #[true, true, true, true, true, true, true, true, true, true, true, true, true, true, true, true, true, true, true, true, true, true, true, true, true, true, true, true, false, false, false, false] rfl rfl (any_of rfl (by kernel_rfl)) (fun _ _ _ h => h) (Or.inr ⟨by rfl, rfl⟩) ?_ ?_
  rotate_left
  · simp only [Act.put, List.setIfInBounds_toArray, List.set_cons_zero, List.set_cons_succ, i64_w, i32_w]
    rfl
  refine pure_ (i := 28) (N := some 46) (v := undef) (a' := ?_) #[true, true, true, true, true, true, true, true, true, true, true, true, true, true, true, true, true, true, true, true, true, true, true, true, true, true, true, true, true, false, false, false] rfl rfl (any_of rfl (by kernel_rfl)) (fun _ _ _ h => h) (Or.inr ⟨by rfl, rfl⟩) ?_ ?_
  rotate_left
  · simp only [Act.put, List.setIfInBounds_toArray, List.set_cons_zero, List.set_cons_succ, i64_w, i32_w]
    rfl
  refine pure_ (i := 29) (N := some 47) (v := undef) (a' := ?_) #[true, true, true, true, true, true, true, true, true, true, true, true, true, true, true, true, true, true, true, true, true, true, true, true, true, true, true, true, true, true, false, false] rfl rfl (any_of rfl (by kernel_rfl)) (fun _ _ _ h => h) (Or.inr ⟨by rfl, rfl⟩) ?_ ?_
  rotate_left
  · simp only [Act.put, List.setIfInBounds_toArray, List.set_cons_zero, List.set_cons_succ, i64_w, i32_w]
    rfl
  refine pure_ (i := 30) (N := some 48) (v := undef) (a' := ?_) #[true, true, true, true, true, true, true, true, true, true, true, true, true, true, true, true, true, true, true, true, true, true, true, true, true, true, true, true, true, true, true, false] rfl rfl (any_of rfl (by kernel_rfl)) (fun _ _ _ h => h) (Or.inr ⟨by rfl, rfl⟩) ?_ ?_
  rotate_left
  · simp only [Act.put, List.setIfInBounds_toArray, List.set_cons_zero, List.set_cons_succ, i64_w, i32_w]
    rfl
  refine pure_ (i := 31) (N := some 49) (v := ?_) (a' := ?_) #[true, true, true, true, true, true, true, true, true, true, true, true, true, true, true, true, true, true, true, true, true, true, true, true, true, true, true, true, true, true, true, true] rfl rfl (any_of rfl (by kernel_rfl)) (fun _ _ _ h => h) (Or.inl ⟨by rfl, ?_⟩) ?_ ?_
  rotate_left
  · intro w'
    go_simp
    with_reducible rfl
  rotate_left
  · simp only [Act.put, List.setIfInBounds_toArray, List.set_cons_zero, List.set_cons_succ, i64_w, i32_w]
    rfl
  refine done_ (done_of rfl (by kernel_rfl)) ?_
  go_wp2
  go_ret
  exact ⟨rfl, HB⟩
set_option maxRecDepth 100000 in
set_option maxHeartbeats 4000000 in
theorem ver_bad5 (h1 : l1.length = 18) (h2 : l2.length ≤ 8) (o1 : OddOf w A1 c1 l1 false) (o2 : OddOf w A2 c2 l2 false) (h5 : idx < 0) :
    Calls Tryd.prog 33 #[.string a0, .string msg, .agg #[.int .i64 idx, .slice A1 l1.length c1, .slice A2 l2.length c2]] w fun e w' => VerTo w false e w' := by
  have d1 : ((l1.length : Int) == 18) = true := beq_iff_eq.mpr (by omega)
  have d2 : ((l1.length : Int) != 18) = false := bne_eq_false_iff_eq.mpr (by omega)
  have d3 : decide (8 < (l2.length : Int)) = false := decide_eq_false (by omega)
  have d4 : decide (8 < l2.length) = false := decide_eq_false (by omega)
  have d5 : decide (idx < 0) = true := decide_eq_true h5
  have HO1 := Lib.hid o1
  clear o1
  have HO2 := Lib.hid o2
  clear o2
  clear h1 h2 h5
  go_enter Tryd.func33, Tryd.ntmps33
  go_wp2
  have BK := blk_new w (.cells #[.int .i64 idx, .slice A1 l1.length c1, .slice A2 l2.length c2] 35)
  have HB := below_alloc (Below.refl w.heap.size w) (.cells #[.int .i64 idx, .slice A1 l1.length c1, .slice A2 l2.length c2] 35)
  refine start_ (n := 32) (S := fun w' => w'.cell? ⟨w.heap.size, 0, none⟩ = some (.int .i64 idx) ∧ w'.cell? ⟨w.heap.size, 1, none⟩ = some (.slice A1 l1.length c1) ∧ w'.cell? ⟨w.heap.size, 2, none⟩ = some (.slice A2 l2.length c2)) (ds := []) #[false, false, false, false, false, false, false, false, false, false, false, false, false, false, false, false, false, false, false, false, false, false, false, false, false, false, false, false, false, false, false, false] (by kernel_rfl) rfl rfl ⟨(blk_cell (blk_drew BK) 0).trans rfl, (blk_cell (blk_drew BK) 1).trans rfl, (blk_cell (blk_drew BK) 2).trans rfl⟩ (fun hHeld => ?_)
  replace BK := blk_drew BK
  replace HB := below_drew1 HB
  generalize (w.alloc (.cells #[.int .i64 idx, .slice A1 l1.length c1, .slice A2 l2.length c2] 35)).drew = Wd at BK HB hHeld ⊢
  refine pure_ (i := 0) (N := some 18) (v := ?_) (a' := ?_) #[true, false, false, false, false, false, false, false, false, false, false, false, false, false, false, false, false, false, false, false, false, false, false, false, false, false, false, false, false, false, false, false] rfl rfl (any_of rfl (by kernel_rfl)) (fun _ _ _ h => h) (Or.inl ⟨by rfl, ?_⟩) ?_ ?_
  rotate_left
  · intro w'
    go_simp
    with_reducible rfl
  rotate_left
  · simp only [Act.put, List.setIfInBounds_toArray, List.set_cons_zero, List.set_cons_succ, i64_w, i32_w]
    rfl
  refine take_ (i := 1) (N := some 19) (v := ?_) (a' := ?_) #[true, true, false, false, false, false, false, false, false, false, false, false, false, false, false, false, false, false, false, false, false, false, false, false, false, false, false, false, false, false, false, false] rfl rfl (take_of rfl (by kernel_rfl)) (fun _ _ _ h => h) (Or.inl ⟨by rfl, ?_⟩) hHeld ?_ ?_
  rotate_left
  · rintro w' ⟨s0, s1, s2⟩
    go_simp
    with_reducible rfl
  rotate_left
  · simp only [Act.put, List.setIfInBounds_toArray, List.set_cons_zero, List.set_cons_succ, i64_w, i32_w]
    rfl
  refine pure_ (i := 2) (N := some 20) (v := ?_) (a' := ?_) #[true, true, true, false, false, false, false, false, false, false, false, false, false, false, false, false, false, false, false, false, false, false, false, false, false, false, false, false, false, false, false, false] rfl rfl (any_of rfl (by kernel_rfl)) (fun _ _ _ h => h) (Or.inl ⟨by rfl, ?_⟩) ?_ ?_
  rotate_left
  · intro w'
    go_simp
    with_reducible rfl
  rotate_left
  · simp only [Act.put, List.setIfInBounds_toArray, List.set_cons_zero, List.set_cons_succ, i64_w, i32_w]
    rfl
  refine pure_ (i := 3) (N := some 21) (v := ?_) (a' := ?_) #[true, true, true, true, false, false, false, false, false, false, false, false, false, false, false, false, false, false, false, false, false, false, false, false, false, false, false, false, false, false, false, false] rfl rfl (any_of rfl (by kernel_rfl)) (fun _ _ _ h => h) (Or.inl ⟨by rfl, ?_⟩) ?_ ?_
  rotate_left
  · intro w'
    go_simp
    with_reducible rfl
  rotate_left
  · simp only [Act.put, List.setIfInBounds_toArray, List.set_cons_zero, List.set_cons_succ, i64_w, i32_w]
    rfl
  refine pure_ (i := 4) (N := some 22) (v := ?_) (a' := ?_) #[true, true, true, true, true, false, false, false, false, false, false, false, false, false, false, false, false, false, false, false, false, false, false, false, false, false, false, false, false, false, false, false] rfl rfl (any_of rfl (by kernel_rfl)) (fun _ _ _ h => h) (Or.inl ⟨by rfl, ?_⟩) ?_ ?_
  rotate_left
  · intro w'
    go_simp
    with_reducible rfl
  rotate_left
  · simp only [Act.put, List.setIfInBounds_toArray, List.set_cons_zero, List.set_cons_succ, i64_w, i32_w]
    rfl
  refine pure_ (i := 5) (N := some 23) (v := ?_) (a' := ?_) #[true, true, true, true, true, true, false, false, false, false, false, false, false, false, false, false, false, false, false, false, false, false, false, false, false, false, false, false, false, false, false, false] rfl rfl (any_of rfl (by kernel_rfl)) (fun _ _ _ h => h) (Or.inl ⟨by rfl, ?_⟩) ?_ ?_
  rotate_left
  · intro w'
    go_simp
    with_reducible rfl
  rotate_left
  · simp only [Act.put, List.setIfInBounds_toArray, List.set_cons_zero, List.set_cons_succ, i64_w, i32_w]
    rfl
  refine pure_ (i := 6) (N := some 24) (v := ?_) (a' := ?_) #[true, true, true, true, true, true, true, false, false, false, false, false, false, false, false, false, false, false, false, false, false, false, false, false, false, false, false, false, false, false, false, false] rfl rfl (any_of rfl (by kernel_rfl)) (fun _ _ _ h => h) (Or.inl ⟨by rfl, ?_⟩) ?_ ?_
  rotate_left
  · intro w'
    go_simp
    with_reducible rfl
  rotate_left
  · simp only [Act.put, List.setIfInBounds_toArray, List.set_cons_zero, List.set_cons_succ, i64_w, i32_w]
    rfl
  refine pure_ (i := 7) (N := some 25) (v := ?_) (a' := ?_) #[true, true, true, true, true, true, true, true, false, false, false, false, false, false, false, false, false, false, false, false, false, false, false, false, false, false, false, false, false, false, false, false] rfl rfl (any_of rfl (by kernel_rfl)) (fun _ _ _ h => h) (Or.inl ⟨by rfl, ?_⟩) ?_ ?_
  rotate_left
  · intro w'
    go_simp
    with_reducible rfl
  rotate_left
  · simp only [Act.put, List.setIfInBounds_toArray, List.set_cons_zero, List.set_cons_succ, i64_w, i32_w]
    rfl
  refine pure_ (i := 8) (N := some 26) (v := ?_) (a' := ?_) #[true, true, true, true, true, true, true, true, true, false, false, false, false, false, false, false, false, false, false, false, false, false, false, false, false, false, false, false, false, false, false, false] rfl rfl (any_of rfl (by kernel_rfl)) (fun _ _ _ h => h) (Or.inl ⟨by rfl, ?_⟩) ?_ ?_
  rotate_left
  · intro w'
    go_simp
    with_reducible rfl
  rotate_left
  · simp only [Act.put, List.setIfInBounds_toArray, List.set_cons_zero, List.set_cons_succ, i64_w, i32_w]
    rfl
  refine pure_ (i := 9) (N := some 27) (v := ?_) (a' := ?_) #[true, true, true, true, true, true, true, true, true, true, false, false, false, false, false, false, false, false, false, false, false, false, false, false, false, false, false, false, false, false, false, false] rfl rfl (any_of rfl (by kernel_rfl)) (fun _ _ _ h => h) (Or.inl ⟨by rfl, ?_⟩) ?_ ?_
  rotate_left
  · intro w'
    go_simp
    with_reducible rfl
  rotate_left
  · simp only [Act.put, List.setIfInBounds_toArray, List.set_cons_zero, List.set_cons_succ, i64_w, i32_w]
    rfl
  refine pure_ (i := 10) (N := some 28) (v := ?_) (a' := ?_) #[true, true, true, true, true, true, true, true, true, true, true, false, false, false, false, false, false, false, false, false, false, false, false, false, false, false, false, false, false, false, false, false] rfl rfl (any_of rfl (by kernel_rfl)) (fun _ _ _ h => h) (Or.inl ⟨by rfl, ?_⟩) ?_ ?_
  rotate_left
  · intro w'
    go_simp
    with_reducible rfl
  rotate_left
  · simp only [Act.put, List.setIfInBounds_toArray, List.set_cons_zero, List.set_cons_succ, i64_w, i32_w]
    rfl
  refine take_ (i := 11) (N := some 29) (v := ?_) (a' := ?_) #[true, true, true, true, true, true, true, true, true, true, true, true, false, false, false, false, false, false, false, false, false, false, false, false, false, false, false, false, false, false, false, false] rfl rfl (take_of rfl (by kernel_rfl)) (fun _ _ _ h => h) (Or.inl ⟨by rfl, ?_⟩) hHeld ?_ ?_
  rotate_left
  · rintro w' ⟨s0, s1, s2⟩
    go_simp
    with_reducible rfl
  rotate_left
  · simp only [Act.put, List.setIfInBounds_toArray, List.set_cons_zero, List.set_cons_succ, i64_w, i32_w]
    rfl
  refine one_ (i := 12) (N := some 30) #[true, true, true, true, true, true, true, true, true, true, true, true, true, false, false, false, false, false, false, false, false, false, false, false, false, false, false, false, false, false, false, false] rfl rfl (one_of rfl (by kernel_rfl)) (by decide) (fun K hK => ?_)
  refine goesV_ 60 Tryd.func60 (by kernel_rfl) rfl #[.slice A1 l1.length c1] (by rfl) rfl rfl rfl (by (try simp only [List.map_toArray, List.map_cons, List.map_nil]); first | done | rfl) ?_
  refine ((HO1.out Wd HB).mono ?_)
  rintro e W1 ⟨rfl, hb⟩
  refine ⟨_, rfl, ?_⟩
  replace BK := blk_below BK hb
  replace HB := HB.trans (hb.mono HB.size)
  refine hK.out _ _ ⟨(blk_cell BK 0).trans rfl, (blk_cell BK 1).trans rfl, (blk_cell BK 2).trans rfl⟩ (fun hHeld1 => ?_)
  clear hHeld hb
  have hHeld := hHeld1
  clear hHeld1
  clear hK K
  refine norm_ (a' := ?_) ?_ ?_
  rotate_left
  · show Act.put _ (some 30) _ = _
    simp only [Act.put, List.setIfInBounds_toArray, List.set_cons_zero, List.set_cons_succ, i64_w, i32_w]
    rfl
  refine pure_ (i := 13) (N := some 31) (v := ?_) (a' := ?_) #[true, true, true, true, true, true, true, true, true, true, true, true, true, true, false, false, false, false, false, false, false, false, false, false, false, false, false, false, false, false, false, false] rfl rfl (any_of rfl (by kernel_rfl)) (fun _ _ _ h => h) (Or.inl ⟨by rfl, ?_⟩) ?_ ?_
  rotate_left
  · intro w'
    go_simp
    with_reducible rfl
  rotate_left
  · simp only [Act.put, List.setIfInBounds_toArray, List.set_cons_zero, List.set_cons_succ, i64_w, i32_w]
    rfl
  refine pure_ (i := 14) (N := some 32) (v := ?_) (a' := ?_) #[true, true, true, true, true, true, true, true, true, true, true, true, true, true, true, false, false, false, false, false, false, false, false, false, false, false, false, false, false, false, false, false] rfl rfl (any_of rfl (by kernel_rfl)) (fun _ _ _ h => h) (Or.inl ⟨by rfl, ?_⟩) ?_ ?_
  rotate_left
  · intro w'
    go_simp
    with_reducible rfl
  rotate_left
  · simp only [Act.put, List.setIfInBounds_toArray, List.set_cons_zero, List.set_cons_succ, i64_w, i32_w]
    rfl
  refine pure_ (i := 15) (N := some 33) (v := ?_) (a' := ?_) #[true, true, true, true, true, true, true, true, true, true, true, true, true, true, true, true, false, false, false, false, false, false, false, false, false, false, false, false, false, false, false, false] rfl rfl (any_of rfl (by kernel_rfl)) (fun _ _ _ h => h) (Or.inl ⟨by rfl, ?_⟩) ?_ ?_
  rotate_left
  · intro w'
    go_simp
    with_reducible rfl
  rotate_left
  · simp only [Act.put, List.setIfInBounds_toArray, List.set_cons_zero, List.set_cons_succ, i64_w, i32_w]
    rfl
  refine pure_ (i := 16) (N := some 34) (v := ?_) (a' := ?_) #[true, true, true, true, true, true, true, true, true, true, true, true, true, true, true, true, true, false, false, false, false, false, false, false, false, false, false, false, false, false, false, false] rfl rfl (any_of rfl (by kernel_rfl)) (fun _ _ _ h => h) (Or.inl ⟨by rfl, ?_⟩) ?_ ?_
  rotate_left
  · intro w'
    go_simp
    with_reducible rfl
  rotate_left
  · simp only [Act.put, List.setIfInBounds_toArray, List.set_cons_zero, List.set_cons_succ, i64_w, i32_w]
    rfl
  refine take_ (i := 17) (N := some 35) (v := ?_) (a' := ?_) #[true, true, true, true, true, true, true, true, true, true, true, true, true, true, true, true, true, true, false, false, false, false, false, false, false, false, false, false, false, false, false, false] rfl rfl (take_of rfl (by kernel_rfl)) (fun _ _ _ h => h) (Or.inl ⟨by rfl, ?_⟩) hHeld ?_ ?_
  rotate_left
  · rintro w' ⟨s0, s1, s2⟩
    go_simp
    with_reducible rfl
  rotate_left
  · simp only [Act.put, List.setIfInBounds_toArray, List.set_cons_zero, List.set_cons_succ, i64_w, i32_w]
    rfl
  refine one_ (i := 18) (N := some 36) #[true, true, true, true, true, true, true, true, true, true, true, true, true, true, true, true, true, true, true, false, false, false, false, false, false, false, false, false, false, false, false, false] rfl rfl (one_of rfl (by kernel_rfl)) (by decide) (fun K hK => ?_)
  refine goesV_ 60 Tryd.func60 (by kernel_rfl) rfl #[.slice A2 l2.length c2] (by rfl) rfl rfl rfl (by (try simp only [List.map_toArray, List.map_cons, List.map_nil]); first | done | rfl) ?_
  refine ((HO2.out W1 HB).mono ?_)
  rintro e W2 ⟨rfl, hb⟩
  refine ⟨_, rfl, ?_⟩
  replace BK := blk_below BK hb
  replace HB := HB.trans (hb.mono HB.size)
  refine hK.out _ _ ⟨(blk_cell BK 0).trans rfl, (blk_cell BK 1).trans rfl, (blk_cell BK 2).trans rfl⟩ (fun hHeld1 => ?_)
  clear hHeld hb
  have hHeld := hHeld1
  clear hHeld1
  clear hK K
  refine norm_ (a' := ?_) ?_ ?_
  rotate_left
  · show Act.put _ (some 36) _ = _
    simp only [Act.put, List.setIfInBounds_toArray, List.set_cons_zero, List.set_cons_succ, i64_w, i32_w]
    rfl
  refine pure_ (i := 19) (N := some 37) (v := ?_) (a' := ?_) #[true, true, true, true, true, true, true, true, true, true, true, true, true, true, true, true, true, true, true, true, false, false, false, false, false, false, false, false, false, false, false, false] rfl rfl (any_of rfl (by kernel_rfl)) (fun _ _ _ h => h) (Or.inl ⟨by rfl, ?_⟩) ?_ ?_
  rotate_left
  · intro w'
    go_simp
    with_reducible rfl
  rotate_left
  · simp only [Act.put, List.setIfInBounds_toArray, List.set_cons_zero, List.set_cons_succ, i64_w, i32_w]
    rfl
  refine pure_ (i := 20) (N := some 38) (v := ?_) (a' := ?_) #[true, true, true, true, true, true, true, true, true, true, true, true, true, true, true, true, true, true, true, true, true, false, false, false, false, false, false, false, false, false, false, false] rfl rfl (any_of rfl (by kernel_rfl)) (fun _ _ _ h => h) (Or.inl ⟨by rfl, ?_⟩) ?_ ?_
  rotate_left
  · intro w'
    go_simp
    with_reducible rfl
  rotate_left
  · simp only [Act.put, List.setIfInBounds_toArray, List.set_cons_zero, List.set_cons_succ, i64_w, i32_w]
    rfl
  refine pure_ (i := 21) (N := some 39) (v := ?_) (a' := ?_) #[true, true, true, true, true, true, true, true, true, true, true, true, true, true, true, true, true, true, true, true, true, true, false, false, false, false, false, false, false, false, false, false] rfl rfl (any_of rfl (by kernel_rfl)) (fun _ _ _ h => h) (Or.inl ⟨by rfl, ?_⟩) ?_ ?_
  rotate_left
  · intro w'
    go_simp
    with_reducible rfl
  rotate_left
  · simp only [Act.put, List.setIfInBounds_toArray, List.set_cons_zero, List.set_cons_succ, i64_w, i32_w]
    rfl
  refine take_ (i := 22) (N := some 40) (v := ?_) (a' := ?_) #[true, true, true, true, true, true, true, true, true, true, true, true, true, true, true, true, true, true, true, true, true, true, true, false, false, false, false, false, false, false, false, false] rfl rfl (take_of rfl (by kernel_rfl)) (fun _ _ _ h => h) (Or.inl ⟨by rfl, ?_⟩) hHeld ?_ ?_
  rotate_left
  · rintro w' ⟨s0, s1, s2⟩
    go_simp
    with_reducible rfl
  rotate_left
  · simp only [Act.put, List.setIfInBounds_toArray, List.set_cons_zero, List.set_cons_succ, i64_w, i32_w]
    rfl
  refine pure_ (i := 23) (N := some 41) (v := ?_) (a' := ?_) #[true, true, true, true, true, true, true, true, true, true, true, true, true, true, true, true, true, true, true, true, true, true, true, true, false, false, false, false, false, false, false, false] rfl rfl (any_of rfl (by kernel_rfl)) (fun _ _ _ h => h) (Or.inl ⟨by rfl, ?_⟩) ?_ ?_
  rotate_left
  · intro w'
    go_simp
    with_reducible rfl
  rotate_left
  · simp only [Act.put, List.setIfInBounds_toArray, List.set_cons_zero, List.set_cons_succ, i64_w, i32_w]
    rfl
  refine pure_ (i := 24) (N := some 42) (v := ?_) (a' := ?_) #[true, true, true, true, true, true, true, true, true, true, true, true, true, true, true, true, true, true, true, true, true, true, true, true, true, false, false, false, false, false, false, false] rfl rfl (any_of rfl (by kernel_rfl)) (fun _ _ _ h => h) (Or.inl ⟨by rfl, ?_⟩) ?_ ?_
  rotate_left
  · intro w'
    go_simp
    with_reducible rfl
  rotate_left
  · simp only [Act.put, List.setIfInBounds_toArray, List.set_cons_zero, List.set_cons_succ, i64_w, i32_w]
    rfl
  refine pure_ (i := 25) (N := some 43) (v := ?_) (a' := ?_) #[true, true, true, true, true, true, true, true, true, true, true, true, true, true, true, true, true, true, true, true, true, true, true, true, true, true, false, false, false, false, false, false] rfl rfl (any_of rfl (by kernel_rfl)) (fun _ _ _ h => h) (Or.inl ⟨by rfl, ?_⟩) ?_ ?_
  rotate_left
  · intro w'
    go_simp
    with_reducible rfl
  rotate_left
  · simp only [Act.put, List.setIfInBounds_toArray, List.set_cons_zero, List.set_cons_succ, i64_w, i32_w]
    rfl
  refine pure_ (i := 26) (N := some 44) (v := undef) (a' := ?_) #[true, true, true, true, true, true, true, true, true, true, true, true, true, true, true, true, true, true, true, true, true, true, true, true, true, true, true, false, false, false, false, false] rfl rfl (any_of rfl (by kernel_rfl)) (fun _ _ _ h => h) (Or.inr ⟨by rfl, rfl⟩) ?_ ?_
  rotate_left
  · simp only [Act.put, List.setIfInBounds_toArray, List.set_cons_zero, List.set_cons_succ, i64_w, i32_w]
    rfl
  refine pure_ (i := 27) (N := some 45) (v := undef) (a' := ?_) #[true, true, true, true, true, true, true, true, true, true, true, true, true, true, true, true, true, true, true, true, true, true, true, true, true, true, true, true, false, false, false, false] rfl rfl (any_of rfl (by kernel_rfl)) (fun _ _ _ h => h) (Or.inr ⟨by rfl, rfl⟩) ?_ ?_
  rotate_left
  · simp only [Act.put, List.setIfInBounds_toArray, List.set_cons_zero, List.set_cons_succ, i64_w, i32_w]
    rfl
  refine pure_ (i := 28) (N := some 46) (v := undef) (a' := ?_) #[true, true, true, true, true, true, true, true, true, true, true, true, true, true, true, true, true, true, true, true, true, true, true, true, true, true, true, true, true, false, false, false] rfl rfl (any_of rfl (by kernel_rfl)) (fun _ _ _ h => h) (Or.inr ⟨by rfl, rfl⟩) ?_ ?_
  rotate_left
  · simp only [Act.put, List.setIfInBounds_toArray, List.set_cons_zero, List.set_cons_succ, i64_w, i32_w]
    rfl
  refine pure_ (i := 29) (N := some 47) (v := undef) (a' := ?_) #[true, true, true, true, true, true, true, true, true, true, true, true, true, true, true, true, true, true, true, true, true, true, true, true, true, true, true, true, true, true, false, false] rfl rfl (any_of rfl (by kernel_rfl)) (fun _ _ _ h => h) (Or.inr ⟨by rfl, rfl⟩) ?_ ?_
  rotate_left
  · simp only [Act.put, List.setIfInBounds_toArray, List.set_cons_zero, List.set_cons_succ, i64_w, i32_w]
    rfl
  refine pure_ (i := 30) (N := some 48) (v := undef) (a' := ?_) #[true, true, true, true, true, true, true, true, true, true, true, true, true, true, true, true, true, true, true, true, true, true, true, true, true, true, true, true, true, true, true, false] rfl rfl (any_of rfl (by kernel_rfl)) (fun _ _ _ h => h) (Or.inr ⟨by rfl, rfl⟩) ?_ ?_
  rotate_left
  · simp only [Act.put, List.setIfInBounds_toArray, List.set_cons_zero, List.set_cons_succ, i64_w, i32_w]
    rfl
  refine pure_ (i := 31) (N := some 49) (v := ?_) (a' := ?_) #[true, true, true, true, true, true, true, true, true, true, true, true, true, true, true, true, true, true, true, true, true, true, true, true, true, true, true, true, true, true, true, true] rfl rfl (any_of rfl (by kernel_rfl)) (fun _ _ _ h => h) (Or.inl ⟨by rfl, ?_⟩) ?_ ?_
  rotate_left
  · intro w'
    go_simp
    with_reducible rfl
  rotate_left
  · simp only [Act.put, List.setIfInBounds_toArray, List.set_cons_zero, List.set_cons_succ, i64_w, i32_w]
    rfl
  refine done_ (done_of rfl (by kernel_rfl)) ?_
  go_wp2
  go_ret
  exact ⟨rfl, HB⟩
set_option maxRecDepth 100000 in
set_option maxHeartbeats 4000000 in
theorem ver_bad6 (h1 : l1.length = 18) (h2 : l2.length ≤ 8) (o1 : OddOf w A1 c1 l1 false) (o2 : OddOf w A2 c2 l2 false) (h5 : 0 ≤ idx) (h6 : ((2 ^ l2.length : Nat) : Int) ≤ idx) :
    Calls Tryd.prog 33 #[.string a0, .string msg, .agg #[.int .i64 idx, .slice A1 l1.length c1, .slice A2 l2.length c2]] w fun e w' => VerTo w false e w' := by
  have d1 : ((l1.length : Int) == 18) = true := beq_iff_eq.mpr (by omega)
  have d2 : ((l1.length : Int) != 18) = false := bne_eq_false_iff_eq.mpr (by omega)
  have d3 : decide (8 < (l2.length : Int)) = false := decide_eq_false (by omega)
  have d4 : decide (8 < l2.length) = false := decide_eq_false (by omega)
  have d5 : decide (idx < 0) = false := decide_eq_false (by omega)
  have hp : 2 ^ l2.length ≤ 256 := Nat.le_trans (pow_le h2) (by decide)
  have hpow : (2 : Int) ^ l2.length = ((2 ^ l2.length : Nat) : Int) := by simp
  generalize 2 ^ l2.length = Pw at *
  have d6 : wrap64 ((2 : Int) ^ min l2.length 64) = (Pw : Int) := by rw [Nat.min_eq_left (by omega), hpow]; unfold wrap64; omega
  clear hpow
  have d7 : decide ((Pw : Int) ≤ idx) = true := decide_eq_true h6
  have HO1 := Lib.hid o1
  clear o1
  have HO2 := Lib.hid o2
  clear o2
  clear h1 h2 h5 h6
  go_enter Tryd.func33, Tryd.ntmps33
  go_wp2
  have BK := blk_new w (.cells #[.int .i64 idx, .slice A1 l1.length c1, .slice A2 l2.length c2] 35)
  have HB := below_alloc (Below.refl w.heap.size w) (.cells #[.int .i64 idx, .slice A1 l1.length c1, .slice A2 l2.length c2] 35)
  refine start_ (n := 32) (S := fun w' => w'.cell? ⟨w.heap.size, 0, none⟩ = some (.int .i64 idx) ∧ w'.cell? ⟨w.heap.size, 1, none⟩ = some (.slice A1 l1.length c1) ∧ w'.cell? ⟨w.heap.size, 2, none⟩ = some (.slice A2 l2.length c2)) (ds := []) #[false, false, false, false, false, false, false, false, false, false, false, false, false, false, false, false, false, false, false, false, false, false, false, false, false, false, false, false, false, false, false, false] (by kernel_rfl) rfl rfl ⟨(blk_cell (blk_drew BK) 0).trans rfl, (blk_cell (blk_drew BK) 1).trans rfl, (blk_cell (blk_drew BK) 2).trans rfl⟩ (fun hHeld => ?_)
  replace BK := blk_drew BK
  replace HB := below_drew1 HB
  generalize (w.alloc (.cells #[.int .i64 idx, .slice A1 l1.length c1, .slice A2 l2.length c2] 35)).drew = Wd at BK HB hHeld ⊢
  refine pure_ (i := 0) (N := some 18) (v := ?_) (a' := ?_) #[true, false, false, false, false, false, false, false, false, false, false, false, false, false, false, false, false, false, false, false, false, false, false, false, false, false, false, false, false, false, false, false] rfl rfl (any_of rfl (by kernel_rfl)) (fun _ _ _ h => h) (Or.inl ⟨by rfl, ?_⟩) ?_ ?_
  rotate_left
  · intro w'
    go_simp
    with_reducible rfl
  rotate_left
  · simp only [Act.put, List.setIfInBounds_toArray, List.set_cons_zero, List.set_cons_succ, i64_w, i32_w]
    rfl
  refine take_ (i := 1) (N := some 19) (v := ?_) (a' := ?_) #[true, true, false, false, false, false, false, false, false, false, false, false, false, false, false, false, false, false, false, false, false, false, false, false, false, false, false, false, false, false, false, false] rfl rfl (take_of rfl (by kernel_rfl)) (fun _ _ _ h => h) (Or.inl ⟨by rfl, ?_⟩) hHeld ?_ ?_
  rotate_left
  · rintro w' ⟨s0, s1, s2⟩
    go_simp
    with_reducible rfl
  rotate_left
  · simp only [Act.put, List.setIfInBounds_toArray, List.set_cons_zero, List.set_cons_succ, i64_w, i32_w]
    rfl
  refine pure_ (i := 2) (N := some 20) (v := ?_) (a' := ?_) #[true, true, true, false, false, false, false, false, false, false, false, false, false, false, false, false, false, false, false, false, false, false, false, false, false, false, false, false, false, false, false, false] rfl rfl (any_of rfl (by kernel_rfl)) (fun _ _ _ h => h) (Or.inl ⟨by rfl, ?_⟩) ?_ ?_
  rotate_left
  · intro w'
    go_simp
    with_reducible rfl
  rotate_left
  · simp only [Act.put, List.setIfInBounds_toArray, List.set_cons_zero, List.set_cons_succ, i64_w, i32_w]
    rfl
  refine pure_ (i := 3) (N := some 21) (v := ?_) (a' := ?_) #[true, true, true, true, false, false, false, false, false, false, false, false, false, false, false, false, false, false, false, false, false, false, false, false, false, false, false, false, false, false, false, false] rfl rfl (any_of rfl (by kernel_rfl)) (fun _ _ _ h => h) (Or.inl ⟨by rfl, ?_⟩) ?_ ?_
  rotate_left
  · intro w'
    go_simp
    with_reducible rfl
  rotate_left
  · simp only [Act.put, List.setIfInBounds_toArray, List.set_cons_zero, List.set_cons_succ, i64_w, i32_w]
    rfl
  refine pure_ (i := 4) (N := some 22) (v := ?_) (a' := ?_) #[true, true, true, true, true, false, false, false, false, false, false, false, false, false, false, false, false, false, false, false, false, false, false, false, false, false, false, false, false, false, false, false] rfl rfl (any_of rfl (by kernel_rfl)) (fun _ _ _ h => h) (Or.inl ⟨by rfl, ?_⟩) ?_ ?_
  rotate_left
  · intro w'
    go_simp
    with_reducible rfl
  rotate_left
  · simp only [Act.put, List.setIfInBounds_toArray, List.set_cons_zero, List.set_cons_succ, i64_w, i32_w]
    rfl
  refine pure_ (i := 5) (N := some 23) (v := ?_) (a' := ?_) #[true, true, true, true, true, true, false, false, false, false, false, false, false, false, false, false, false, false, false, false, false, false, false, false, false, false, false, false, false, false, false, false] rfl rfl (any_of rfl (by kernel_rfl)) (fun _ _ _ h => h) (Or.inl ⟨by rfl, ?_⟩) ?_ ?_
  rotate_left
  · intro w'
    go_simp
    with_reducible rfl
  rotate_left
  · simp only [Act.put, List.setIfInBounds_toArray, List.set_cons_zero, List.set_cons_succ, i64_w, i32_w]
    rfl
  refine pure_ (i := 6) (N := some 24) (v := ?_) (a' := ?_) #[true, true, true, true, true, true, true, false, false, false, false, false, false, false, false, false, false, false, false, false, false, false, false, false, false, false, false, false, false, false, false, false] rfl rfl (any_of rfl (by kernel_rfl)) (fun _ _ _ h => h) (Or.inl ⟨by rfl, ?_⟩) ?_ ?_
  rotate_left
  · intro w'
    go_simp
    with_reducible rfl
  rotate_left
  · simp only [Act.put, List.setIfInBounds_toArray, List.set_cons_zero, List.set_cons_succ, i64_w, i32_w]
    rfl
  refine pure_ (i := 7) (N := some 25) (v := ?_) (a' := ?_) #[true, true, true, true, true, true, true, true, false, false, false, false, false, false, false, false, false, false, false, false, false, false, false, false, false, false, false, false, false, false, false, false] rfl rfl (any_of rfl (by kernel_rfl)) (fun _ _ _ h => h) (Or.inl ⟨by rfl, ?_⟩) ?_ ?_
  rotate_left
  · intro w'
    go_simp
    with_reducible rfl
  rotate_left
  · simp only [Act.put, List.setIfInBounds_toArray, List.set_cons_zero, List.set_cons_succ, i64_w, i32_w]
    rfl
  refine pure_ (i := 8) (N := some 26) (v := ?_) (a' := ?_) #[true, true, true, true, true, true, true, true, true, false, false, false, false, false, false, false, false, false, false, false, false, false, false, false, false, false, false, false, false, false, false, false] rfl rfl (any_of rfl (by kernel_rfl)) (fun _ _ _ h => h) (Or.inl ⟨by rfl, ?_⟩) ?_ ?_
  rotate_left
  · intro w'
    go_simp
    with_reducible rfl
  rotate_left
  · simp only [Act.put, List.setIfInBounds_toArray, List.set_cons_zero, List.set_cons_succ, i64_w, i32_w]
    rfl
  refine pure_ (i := 9) (N := some 27) (v := ?_) (a' := ?_) #[true, true, true, true, true, true, true, true, true, true, false, false, false, false, false, false, false, false, false, false, false, false, false, false, false, false, false, false, false, false, false, false] rfl rfl (any_of rfl (by kernel_rfl)) (fun _ _ _ h => h) (Or.inl ⟨by rfl, ?_⟩) ?_ ?_
  rotate_left
  · intro w'
    go_simp
    with_reducible rfl
  rotate_left
  · simp only [Act.put, List.setIfInBounds_toArray, List.set_cons_zero, List.set_cons_succ, i64_w, i32_w]
    rfl
  refine pure_ (i := 10) (N := some 28) (v := ?_) (a' := ?_) #[true, true, true, true, true, true, true, true, true, true, true, false, false, false, false, false, false, false, false, false, false, false, false, false, false, false, false, false, false, false, false, false] rfl rfl (any_of rfl (by kernel_rfl)) (fun _ _ _ h => h) (Or.inl ⟨by rfl, ?_⟩) ?_ ?_
  rotate_left
  · intro w'
    go_simp
    with_reducible rfl
  rotate_left
  · simp only [Act.put, List.setIfInBounds_toArray, List.set_cons_zero, List.set_cons_succ, i64_w, i32_w]
    rfl
  refine take_ (i := 11) (N := some 29) (v := ?_) (a' := ?_) #[true, true, true, true, true, true, true, true, true, true, true, true, false, false, false, false, false, false, false, false, false, false, false, false, false, false, false, false, false, false, false, false] rfl rfl (take_of rfl (by kernel_rfl)) (fun _ _ _ h => h) (Or.inl ⟨by rfl, ?_⟩) hHeld ?_ ?_
  rotate_left
  · rintro w' ⟨s0, s1, s2⟩
    go_simp
    with_reducible rfl
  rotate_left
  · simp only [Act.put, List.setIfInBounds_toArray, List.set_cons_zero, List.set_cons_succ, i64_w, i32_w]
    rfl
  refine one_ (i := 12) (N := some 30) #[true, true, true, true, true, true, true, true, true, true, true, true, true, false, false, false, false, false, false, false, false, false, false, false, false, false, false, false, false, false, false, false] rfl rfl (one_of rfl (by kernel_rfl)) (by decide) (fun K hK => ?_)
  refine goesV_ 60 Tryd.func60 (by kernel_rfl) rfl #[.slice A1 l1.length c1] (by rfl) rfl rfl rfl (by (try simp only [List.map_toArray, List.map_cons, List.map_nil]); first | done | rfl) ?_
  refine ((HO1.out Wd HB).mono ?_)
  rintro e W1 ⟨rfl, hb⟩
  refine ⟨_, rfl, ?_⟩
  replace BK := blk_below BK hb
  replace HB := HB.trans (hb.mono HB.size)
  refine hK.out _ _ ⟨(blk_cell BK 0).trans rfl, (blk_cell BK 1).trans rfl, (blk_cell BK 2).trans rfl⟩ (fun hHeld1 => ?_)
  clear hHeld hb
  have hHeld := hHeld1
  clear hHeld1
  clear hK K
  refine norm_ (a' := ?_) ?_ ?_
  rotate_left
  · show Act.put _ (some 30) _ = _
    simp only [Act.put, List.setIfInBounds_toArray, List.set_cons_zero, List.set_cons_succ, i64_w, i32_w]
    rfl
  refine pure_ (i := 13) (N := some 31) (v := ?_) (a' := ?_) #[true, true, true, true, true, true, true, true, true, true, true, true, true, true, false, false, false, false, false, false, false, false, false, false, false, false, false, false, false, false, false, false] rfl rfl (any_of rfl (by kernel_rfl)) (fun _ _ _ h => h) (Or.inl ⟨by rfl, ?_⟩) ?_ ?_
  rotate_left
  · intro w'
    go_simp
    with_reducible rfl
  rotate_left
  · simp only [Act.put, List.setIfInBounds_toArray, List.set_cons_zero, List.set_cons_succ, i64_w, i32_w]
    rfl
  refine pure_ (i := 14) (N := some 32) (v := ?_) (a' := ?_) #[true, true, true, true, true, true, true, true, true, true, true, true, true, true, true, false, false, false, false, false, false, false, false, false, false, false, false, false, false, false, false, false] rfl rfl (any_of rfl (by kernel_rfl)) (fun _ _ _ h => h) (Or.inl ⟨by rfl, ?_⟩) ?_ ?_
  rotate_left
  · intro w'
    go_simp
    with_reducible rfl
  rotate_left
  · simp only [Act.put, List.setIfInBounds_toArray, List.set_cons_zero, List.set_cons_succ, i64_w, i32_w]
    rfl
  refine pure_ (i := 15) (N := some 33) (v := ?_) (a' := ?_) #[true, true, true, true, true, true, true, true, true, true, true, true, true, true, true, true, false, false, false, false, false, false, false, false, false, false, false, false, false, false, false, false] rfl rfl (any_of rfl (by kernel_rfl)) (fun _ _ _ h => h) (Or.inl ⟨by rfl, ?_⟩) ?_ ?_
  rotate_left
  · intro w'
    go_simp
    with_reducible rfl
  rotate_left
  · simp only [Act.put, List.setIfInBounds_toArray, List.set_cons_zero, List.set_cons_succ, i64_w, i32_w]
    rfl
  refine pure_ (i := 16) (N := some 34) (v := ?_) (a' := ?_) #[true, true, true, true, true, true, true, true, true, true, true, true, true, true, true, true, true, false, false, false, false, false, false, false, false, false, false, false, false, false, false, false] rfl rfl (any_of rfl (by kernel_rfl)) (fun _ _ _ h => h) (Or.inl ⟨by rfl, ?_⟩) ?_ ?_
  rotate_left
  · intro w'
    go_simp
    with_reducible rfl
  rotate_left
  · simp only [Act.put, List.setIfInBounds_toArray, List.set_cons_zero, List.set_cons_succ, i64_w, i32_w]
    rfl
  refine take_ (i := 17) (N := some 35) (v := ?_) (a' := ?_) #[true, true, true, true, true, true, true, true, true, true, true, true, true, true, true, true, true, true, false, false, false, false, false, false, false, false, false, false, false, false, false, false] rfl rfl (take_of rfl (by kernel_rfl)) (fun _ _ _ h => h) (Or.inl ⟨by rfl, ?_⟩) hHeld ?_ ?_
  rotate_left
  · rintro w' ⟨s0, s1, s2⟩
    go_simp
    with_reducible rfl
  rotate_left
  · simp only [Act.put, List.setIfInBounds_toArray, List.set_cons_zero, List.set_cons_succ, i64_w, i32_w]
    rfl
  refine one_ (i := 18) (N := some 36) #[true, true, true, true, true, true, true, true, true, true, true, true, true, true, true, true, true, true, true, false, false, false, false, false, false, false, false, false, false, false, false, false] rfl rfl (one_of rfl (by kernel_rfl)) (by decide) (fun K hK => ?_)
  refine goesV_ 60 Tryd.func60 (by kernel_rfl) rfl #[.slice A2 l2.length c2] (by rfl) rfl rfl rfl (by (try simp only [List.map_toArray, List.map_cons, List.map_nil]); first | done | rfl) ?_
  refine ((HO2.out W1 HB).mono ?_)
  rintro e W2 ⟨rfl, hb⟩
  refine ⟨_, rfl, ?_⟩
  replace BK := blk_below BK hb
  replace HB := HB.trans (hb.mono HB.size)
  refine hK.out _ _ ⟨(blk_cell BK 0).trans rfl, (blk_cell BK 1).trans rfl, (blk_cell BK 2).trans rfl⟩ (fun hHeld1 => ?_)
  clear hHeld hb
  have hHeld := hHeld1
  clear hHeld1
  clear hK K
  refine norm_ (a' := ?_) ?_ ?_
  rotate_left
  · show Act.put _ (some 36) _ = _
    simp only [Act.put, List.setIfInBounds_toArray, List.set_cons_zero, List.set_cons_succ, i64_w, i32_w]
    rfl
  refine pure_ (i := 19) (N := some 37) (v := ?_) (a' := ?_) #[true, true, true, true, true, true, true, true, true, true, true, true, true, true, true, true, true, true, true, true, false, false, false, false, false, false, false, false, false, false, false, false] rfl rfl (any_of rfl (by kernel_rfl)) (fun _ _ _ h => h) (Or.inl ⟨by rfl, ?_⟩) ?_ ?_
  rotate_left
  · intro w'
    go_simp
    with_reducible rfl
  rotate_left
  · simp only [Act.put, List.setIfInBounds_toArray, List.set_cons_zero, List.set_cons_succ, i64_w, i32_w]
    rfl
  refine pure_ (i := 20) (N := some 38) (v := ?_) (a' := ?_) #[true, true, true, true, true, true, true, true, true, true, true, true, true, true, true, true, true, true, true, true, true, false, false, false, false, false, false, false, false, false, false, false] rfl rfl (any_of rfl (by kernel_rfl)) (fun _ _ _ h => h) (Or.inl ⟨by rfl, ?_⟩) ?_ ?_
  rotate_left
  · intro w'
    go_simp
    with_reducible rfl
  rotate_left
  · simp only [Act.put, List.setIfInBounds_toArray, List.set_cons_zero, List.set_cons_succ, i64_w, i32_w]
    rfl
  refine pure_ (i := 21) (N := some 39) (v := ?_) (a' := ?_) #[true, true, true, true, true, true, true, true, true, true, true, true, true, true, true, true, true, true, true, true, true, true, false, false, false, false, false, false, false, false, false, false] rfl rfl (any_of rfl (by kernel_rfl)) (fun _ _ _ h => h) (Or.inl ⟨by rfl, ?_⟩) ?_ ?_
  rotate_left
  · intro w'
    go_simp
    with_reducible rfl
  rotate_left
  · simp only [Act.put, List.setIfInBounds_toArray, List.set_cons_zero, List.set_cons_succ, i64_w, i32_w]
    rfl
  refine take_ (i := 22) (N := some 40) (v := ?_) (a' := ?_) #[true, true, true, true, true, true, true, true, true, true, true, true, true, true, true, true, true, true, true, true, true, true, true, false, false, false, false, false, false, false, false, false] rfl rfl (take_of rfl (by kernel_rfl)) (fun _ _ _ h => h) (Or.inl ⟨by rfl, ?_⟩) hHeld ?_ ?_
  rotate_left
  · rintro w' ⟨s0, s1, s2⟩
    go_simp
    with_reducible rfl
  rotate_left
  · simp only [Act.put, List.setIfInBounds_toArray, List.set_cons_zero, List.set_cons_succ, i64_w, i32_w]
    rfl
  refine pure_ (i := 23) (N := some 41) (v := ?_) (a' := ?_) #[true, true, true, true, true, true, true, true, true, true, true, true, true, true, true, true, true, true, true, true, true, true, true, true, false, false, false, false, false, false, false, false] rfl rfl (any_of rfl (by kernel_rfl)) (fun _ _ _ h => h) (Or.inl ⟨by rfl, ?_⟩) ?_ ?_
  rotate_left
  · intro w'
    go_simp
    with_reducible rfl
  rotate_left
  · simp only [Act.put, List.setIfInBounds_toArray, List.set_cons_zero, List.set_cons_succ, i64_w, i32_w]
    rfl
  refine pure_ (i := 24) (N := some 42) (v := ?_) (a' := ?_) #[true, true, true, true, true, true, true, true, true, true, true, true, true, true, true, true, true, true, true, true, true, true, true, true, true, false, false, false, false, false, false, false] rfl rfl (any_of rfl (by kernel_rfl)) (fun _ _ _ h => h) (Or.inl ⟨by rfl, ?_⟩) ?_ ?_
  rotate_left
  · intro w'
    go_simp
    with_reducible rfl
  rotate_left
  · simp only [Act.put, List.setIfInBounds_toArray, List.set_cons_zero, List.set_cons_succ, i64_w, i32_w]
    rfl
  refine pure_ (i := 25) (N := some 43) (v := ?_) (a' := ?_) #[true, true, true, true, true, true, true, true, true, true, true, true, true, true, true, true, true, true, true, true, true, true, true, true, true, true, false, false, false, false, false, false] rfl rfl (any_of rfl (by kernel_rfl)) (fun _ _ _ h => h) (Or.inl ⟨by rfl, ?_⟩) ?_ ?_
  rotate_left
  · intro w'
    go_simp
    with_reducible rfl
  rotate_left
  · simp only [Act.put, List.setIfInBounds_toArray, List.set_cons_zero, List.set_cons_succ, i64_w, i32_w]
    rfl
  refine pure_ (i := 26) (N := some 44) (v := ?_) (a' := ?_) #[true, true, true, true, true, true, true, true, true, true, true, true, true, true, true, true, true, true, true, true, true, true, true, true, true, true, true, false, false, false, false, false] rfl rfl (any_of rfl (by kernel_rfl)) (fun _ _ _ h => h) (Or.inl ⟨by rfl, ?_⟩) ?_ ?_
  rotate_left
  · intro w'
    go_simp
    with_reducible rfl
  rotate_left
  · simp only [Act.put, List.setIfInBounds_toArray, List.set_cons_zero, List.set_cons_succ, i64_w, i32_w]
    rfl
  refine take_ (i := 27) (N := some 45) (v := ?_) (a' := ?_) #[true, true, true, true, true, true, true, true, true, true, true, true, true, true, true, true, true, true, true, true, true, true, true, true, true, true, true, true, false, false, false, false] rfl rfl (take_of rfl (by kernel_rfl)) (fun _ _ _ h => h) (Or.inl ⟨by rfl, ?_⟩) hHeld ?_ ?_
  rotate_left
  · rintro w' ⟨s0, s1, s2⟩
    go_simp
    with_reducible rfl
  rotate_left
  · simp only [Act.put, List.setIfInBounds_toArray, List.set_cons_zero, List.set_cons_succ, i64_w, i32_w]
    rfl
  refine pure_ (i := 28) (N := some 46) (v := ?_) (a' := ?_) #[true, true, true, true, true, true, true, true, true, true, true, true, true, true, true, true, true, true, true, true, true, true, true, true, true, true, true, true, true, false, false, false] rfl rfl (any_of rfl (by kernel_rfl)) (fun _ _ _ h => h) (Or.inl ⟨by rfl, ?_⟩) ?_ ?_
  rotate_left
  · intro w'
    go_simp
    with_reducible rfl
  rotate_left
  · simp only [Act.put, List.setIfInBounds_toArray, List.set_cons_zero, List.set_cons_succ, i64_w, i32_w]
    rfl
  refine pure_ (i := 29) (N := some 47) (v := ?_) (a' := ?_) #[true, true, true, true, true, true, true, true, true, true, true, true, true, true, true, true, true, true, true, true, true, true, true, true, true, true, true, true, true, true, false, false] rfl rfl (any_of rfl (by kernel_rfl)) (fun _ _ _ h => h) (Or.inl ⟨by rfl, ?_⟩) ?_ ?_
  rotate_left
  · intro w'
    go_simp
    with_reducible rfl
  rotate_left
  · simp only [Act.put, List.setIfInBounds_toArray, List.set_cons_zero, List.set_cons_succ, i64_w, i32_w]
    rfl
  refine pure_ (i := 30) (N := some 48) (v := ?_) (a' := ?_) #[true, true, true, true, true, true, true, true, true, true, true, true, true, true, true, true, true, true, true, true, true, true, true, true, true, true, true, true, true, true, true, false] rfl rfl (any_of rfl (by kernel_rfl)) (fun _ _ _ h => h) (Or.inl ⟨by rfl, ?_⟩) ?_ ?_
  rotate_left
  · intro w'
    go_simp
    with_reducible rfl
  rotate_left
  · simp only [Act.put, List.setIfInBounds_toArray, List.set_cons_zero, List.set_cons_succ, i64_w, i32_w]
    rfl
  refine pure_ (i := 31) (N := some 49) (v := ?_) (a' := ?_) #[true, true, true, true, true, true, true, true, true, true, true, true, true, true, true, true, true, true, true, true, true, true, true, true, true, true, true, true, true, true, true, true] rfl rfl (any_of rfl (by kernel_rfl)) (fun _ _ _ h => h) (Or.inl ⟨by rfl, ?_⟩) ?_ ?_
  rotate_left
  · intro w'
    go_simp
    with_reducible rfl
  rotate_left
  · simp only [Act.put, List.setIfInBounds_toArray, List.set_cons_zero, List.set_cons_succ, i64_w, i32_w]
    rfl
  refine done_ (done_of rfl (by kernel_rfl)) ?_
  go_wp2
  go_ret
  exact ⟨rfl, HB⟩
end
end Go.Proofs.YteleheamnighkaaDoor
end
section
set_option linter.unusedVariables false
set_option linter.unusedSimpArgs false
namespace Go.Proofs.YteleheamnighkaaDoor
open Go.RowKit Go.Shelf Go.DoorKit Go.DoorRound Go.Proofs.YteleheamnighkaaDoorW.PrintWords Go.Proofs.YteleheamnighkaaDoorW.PrintLast Go.Proofs.YteleheamnighkaaDoorW.PrintMore
attribute [local go_sem] Oper.semAt_some
def endAt (l : List ByteArray) (m : Dig.Txt) (j : Nat) : ByteArray := ofT (Dig.chain (tx (l.getD j ByteArray.empty)) (15 - dAt m j))
def endsL (l : List ByteArray) (m : Dig.Txt) : List ByteArray := (List.finRange 18).map fun j => endAt l m j.val
theorem endsL_len (l : List ByteArray) (m : Dig.Txt) : (endsL l m).length = 18 := by simp [endsL]
theorem chain_len' {t : Dig.Txt} {n : Nat} (h : t.length ≤ 100) : (Dig.chain t n).length ≤ 100 := by
  cases n with
  | zero => exact h
  | succ n => rw [Dig.chain, Dig.sum_len]; decide
def VerLoop (idx : Nat) (l2 : List ByteArray) (w : World) (o : Obj) (D : Nat) (X0 : Dig.Txt) (at_ c : Value) (W : World) : Prop :=
  ∃ k : Nat, k ≤ l2.length ∧ c = .int .i64 (k : Int) ∧ at_ = .string (ofT (Dig.climb X0 idx ((l2.map tx).take k))) ∧ W.heap[w.heap.size]? = some o ∧ W.heap[D]? = some (.deferred (some [])) ∧ Below w.heap.size w W
def climbB (a0 msg : ByteArray) (idx : Nat) (l1 l2 : List ByteArray) : Bool := (ofT (Dig.climb (Dig.lst ((endsL l1 (tx msg)).map tx)) idx (l2.map tx))).toList == a0.toList
theorem climb_len : ∀ {X : Dig.Txt} (_ : X.length = 16) (i : Nat) (ps : List Dig.Txt), (Dig.climb X i ps).length = 16
  | _, h, _, [] => h
  | _, _, i, p :: ps => climb_len (Dig.sum_len _) (i / 2) ps
theorem and_one (x : Nat) (h : x < 256) : (bits .and .i64 (x : Int) 1 == 1) = decide (x % 2 = 1) := by
  have : ∀ n : Fin 256, (bits .and .i64 (n.val : Int) 1 == 1) = decide (n.val % 2 = 1) := by decide +kernel
  exact this ⟨x, h⟩
theorem stepB_stepT (at_ p : Dig.Txt) {idx k : Nat} (h : idx < 256) : Dig.stepT at_ p (idx / 2 ^ k) = stepB at_ p (bits .and .i64 ((idx : Int) / 2 ^ k) 1 == 1) := by
  have e : (idx : Int) / 2 ^ k = ((idx / 2 ^ k : Nat) : Int) := by simp
  rw [e, and_one _ (Nat.lt_of_le_of_lt (Nat.div_le_self _ _) h)]
  unfold Dig.stepT stepB
  by_cases h1 : idx / 2 ^ k % 2 = 1
  · rw [if_pos h1, if_pos (decide_eq_true h1)]
  · rw [if_neg h1, if_neg (by rw [decide_eq_false h1]; decide)]
theorem ends_need2 (l : List ByteArray) (m : Dig.Txt) (h1 : l.length = 18) (hz : ∀ s ∈ l, s.size = 16) : need (endsL l m) ≤ 140737488355328 := by
  refine need_all 100 18 ?_ (by rw [endsL_len]; exact Nat.le_refl _) (by decide)
  intro s hs
  simp only [endsL, List.mem_map] at hs
  obtain ⟨j, _, rfl⟩ := hs
  unfold endAt
  rw [size_ofT]
  refine chain_len' ?_
  rw [tx_len, hz _ (getD_mem (by have := j.isLt; omega))]; decide
set_option maxRecDepth 100000 in
set_option maxHeartbeats 4000000 in
theorem ver_in (a0 msg : ByteArray) (idx : Nat) (A1 A2 : Option Addr) (c1 c2 : Nat) (l1 l2 : List ByteArray) (w : World) (h1 : l1.length = 18) (h2 : l2.length ≤ 8) (o1 : OddOf w A1 c1 l1 false) (o2 : OddOf w A2 c2 l2 false)
    (hr1 : Kd.C Kd.string w A1 l1.length l1) (hr2 : Kd.C Kd.string w A2 l2.length l2) (hz1 : ∀ s ∈ l1, s.size = 16) (hz2 : ∀ s ∈ l2, s.size = 16) (hc1 : l1.length ≤ c1) (hc2 : l2.length ≤ c2)
    (h6 : idx < 2 ^ l2.length) (hm : msg.size ≤ 140737488355328) (hG : Glob w) :
    CallsIn Fence.wide 5 Tryd.prog 33 #[.string a0, .string msg, .agg #[.int .i64 idx, .slice A1 l1.length c1, .slice A2 l2.length c2]] w fun e w' => VerTo w (climbB a0 msg idx l1 l2) e w' := by
  have d1 : ((l1.length : Int) == 18) = true := beq_iff_eq.mpr (by omega)
  have d2 : ((l1.length : Int) != 18) = false := bne_eq_false_iff_eq.mpr (by omega)
  have d3 : decide (8 < (l2.length : Int)) = false := decide_eq_false (by omega)
  have d4 : decide (8 < l2.length) = false := decide_eq_false (by omega)
  have d5 : decide ((idx : Int) < 0) = false := decide_eq_false (by omega)
  have hp : 2 ^ l2.length ≤ 256 := Nat.le_trans (pow_le h2) (by decide)
  have hpow : (2 : Int) ^ l2.length = ((2 ^ l2.length : Nat) : Int) := by simp
  generalize 2 ^ l2.length = Pw at *
  have d6 : wrap64 ((2 : Int) ^ min l2.length 64) = (Pw : Int) := by rw [Nat.min_eq_left (by omega), hpow]; unfold wrap64; omega
  clear hpow
  have d7 : decide ((Pw : Int) ≤ (idx : Int)) = false := decide_eq_false (by omega)
  have HO1 := Lib.hid o1
  have HO2 := Lib.hid o2
  have HH := Lib.hid (And.intro h1 (And.intro h2 (And.intro hz1 (And.intro hz2 (ends_need2 l1 (tx msg) h1 hz1)))))
  clear o1 o2 h1 h2 hz1 hz2
  refine callsIn_of_wp_marks Tryd.func33 rfl trivial ?_ rfl
  simp only [Tryd.ntmps33, List.size_toArray, List.length_cons, List.length_nil, Nat.reduceAdd, Nat.reduceSub, Array.replicate_succ, Array.replicate_zero, List.push_toArray, List.append_toArray, List.nil_append, List.cons_append]
  refine wpIn_wide.2 ?_
  refine wp_mono ?_ (noPanic_le _)
  go_wp2
  have BK := blk_new w (.cells #[.int .i64 (idx : Int), .slice A1 l1.length c1, .slice A2 l2.length c2] 35)
  have HB := below_alloc (Below.refl w.heap.size w) (.cells #[.int .i64 (idx : Int), .slice A1 l1.length c1, .slice A2 l2.length c2] 35)
  refine start_ (n := 32) (S := fun w' => w'.cell? ⟨w.heap.size, 0, none⟩ = some (.int .i64 (idx : Int)) ∧ w'.cell? ⟨w.heap.size, 1, none⟩ = some (.slice A1 l1.length c1) ∧ w'.cell? ⟨w.heap.size, 2, none⟩ = some (.slice A2 l2.length c2)) (ds := []) #[false, false, false, false, false, false, false, false, false, false, false, false, false, false, false, false, false, false, false, false, false, false, false, false, false, false, false, false, false, false, false, false] (by kernel_rfl) rfl rfl ⟨(blk_cell (blk_drew BK) 0).trans rfl, (blk_cell (blk_drew BK) 1).trans rfl, (blk_cell (blk_drew BK) 2).trans rfl⟩ (fun hHeld => ?_)
  replace BK := blk_drew BK
  replace HB := below_drew1 HB
  generalize (w.alloc (.cells #[.int .i64 (idx : Int), .slice A1 l1.length c1, .slice A2 l2.length c2] 35)).drew = Wd at BK HB hHeld ⊢
  refine pure_ (i := 0) (N := some 18) (v := ?_) (a' := ?_) #[true, false, false, false, false, false, false, false, false, false, false, false, false, false, false, false, false, false, false, false, false, false, false, false, false, false, false, false, false, false, false, false] rfl rfl (any_of rfl (by kernel_rfl)) (fun _ _ _ h => h) (Or.inl ⟨by rfl, ?_⟩) ?_ ?_
  rotate_left
  · intro w'
    go_simp
    with_reducible rfl
  rotate_left
  · simp only [Act.put, List.setIfInBounds_toArray, List.set_cons_zero, List.set_cons_succ, i64_w, i32_w]
    rfl
  refine take_ (i := 1) (N := some 19) (v := ?_) (a' := ?_) #[true, true, false, false, false, false, false, false, false, false, false, false, false, false, false, false, false, false, false, false, false, false, false, false, false, false, false, false, false, false, false, false] rfl rfl (take_of rfl (by kernel_rfl)) (fun _ _ _ h => h) (Or.inl ⟨by rfl, ?_⟩) hHeld ?_ ?_
  rotate_left
  · rintro w' ⟨s0, s1, s2⟩
    go_simp
    with_reducible rfl
  rotate_left
  · simp only [Act.put, List.setIfInBounds_toArray, List.set_cons_zero, List.set_cons_succ, i64_w, i32_w]
    rfl
  refine pure_ (i := 2) (N := some 20) (v := ?_) (a' := ?_) #[true, true, true, false, false, false, false, false, false, false, false, false, false, false, false, false, false, false, false, false, false, false, false, false, false, false, false, false, false, false, false, false] rfl rfl (any_of rfl (by kernel_rfl)) (fun _ _ _ h => h) (Or.inl ⟨by rfl, ?_⟩) ?_ ?_
  rotate_left
  · intro w'
    go_simp
    with_reducible rfl
  rotate_left
  · simp only [Act.put, List.setIfInBounds_toArray, List.set_cons_zero, List.set_cons_succ, i64_w, i32_w]
    rfl
  refine pure_ (i := 3) (N := some 21) (v := ?_) (a' := ?_) #[true, true, true, true, false, false, false, false, false, false, false, false, false, false, false, false, false, false, false, false, false, false, false, false, false, false, false, false, false, false, false, false] rfl rfl (any_of rfl (by kernel_rfl)) (fun _ _ _ h => h) (Or.inl ⟨by rfl, ?_⟩) ?_ ?_
  rotate_left
  · intro w'
    go_simp
    with_reducible rfl
  rotate_left
  · simp only [Act.put, List.setIfInBounds_toArray, List.set_cons_zero, List.set_cons_succ, i64_w, i32_w]
    rfl
  refine pure_ (i := 4) (N := some 22) (v := ?_) (a' := ?_) #[true, true, true, true, true, false, false, false, false, false, false, false, false, false, false, false, false, false, false, false, false, false, false, false, false, false, false, false, false, false, false, false] rfl rfl (any_of rfl (by kernel_rfl)) (fun _ _ _ h => h) (Or.inl ⟨by rfl, ?_⟩) ?_ ?_
  rotate_left
  · intro w'
    go_simp
    with_reducible rfl
  rotate_left
  · simp only [Act.put, List.setIfInBounds_toArray, List.set_cons_zero, List.set_cons_succ, i64_w, i32_w]
    rfl
  refine pure_ (i := 5) (N := some 23) (v := ?_) (a' := ?_) #[true, true, true, true, true, true, false, false, false, false, false, false, false, false, false, false, false, false, false, false, false, false, false, false, false, false, false, false, false, false, false, false] rfl rfl (any_of rfl (by kernel_rfl)) (fun _ _ _ h => h) (Or.inl ⟨by rfl, ?_⟩) ?_ ?_
  rotate_left
  · intro w'
    go_simp
    with_reducible rfl
  rotate_left
  · simp only [Act.put, List.setIfInBounds_toArray, List.set_cons_zero, List.set_cons_succ, i64_w, i32_w]
    rfl
  refine pure_ (i := 6) (N := some 24) (v := ?_) (a' := ?_) #[true, true, true, true, true, true, true, false, false, false, false, false, false, false, false, false, false, false, false, false, false, false, false, false, false, false, false, false, false, false, false, false] rfl rfl (any_of rfl (by kernel_rfl)) (fun _ _ _ h => h) (Or.inl ⟨by rfl, ?_⟩) ?_ ?_
  rotate_left
  · intro w'
    go_simp
    with_reducible rfl
  rotate_left
  · simp only [Act.put, List.setIfInBounds_toArray, List.set_cons_zero, List.set_cons_succ, i64_w, i32_w]
    rfl
  refine pure_ (i := 7) (N := some 25) (v := ?_) (a' := ?_) #[true, true, true, true, true, true, true, true, false, false, false, false, false, false, false, false, false, false, false, false, false, false, false, false, false, false, false, false, false, false, false, false] rfl rfl (any_of rfl (by kernel_rfl)) (fun _ _ _ h => h) (Or.inl ⟨by rfl, ?_⟩) ?_ ?_
  rotate_left
  · intro w'
    go_simp
    with_reducible rfl
  rotate_left
  · simp only [Act.put, List.setIfInBounds_toArray, List.set_cons_zero, List.set_cons_succ, i64_w, i32_w]
    rfl
  refine pure_ (i := 8) (N := some 26) (v := ?_) (a' := ?_) #[true, true, true, true, true, true, true, true, true, false, false, false, false, false, false, false, false, false, false, false, false, false, false, false, false, false, false, false, false, false, false, false] rfl rfl (any_of rfl (by kernel_rfl)) (fun _ _ _ h => h) (Or.inl ⟨by rfl, ?_⟩) ?_ ?_
  rotate_left
  · intro w'
    go_simp
    with_reducible rfl
  rotate_left
  · simp only [Act.put, List.setIfInBounds_toArray, List.set_cons_zero, List.set_cons_succ, i64_w, i32_w]
    rfl
  refine pure_ (i := 9) (N := some 27) (v := ?_) (a' := ?_) #[true, true, true, true, true, true, true, true, true, true, false, false, false, false, false, false, false, false, false, false, false, false, false, false, false, false, false, false, false, false, false, false] rfl rfl (any_of rfl (by kernel_rfl)) (fun _ _ _ h => h) (Or.inl ⟨by rfl, ?_⟩) ?_ ?_
  rotate_left
  · intro w'
    go_simp
    with_reducible rfl
  rotate_left
  · simp only [Act.put, List.setIfInBounds_toArray, List.set_cons_zero, List.set_cons_succ, i64_w, i32_w]
    rfl
  refine pure_ (i := 10) (N := some 28) (v := ?_) (a' := ?_) #[true, true, true, true, true, true, true, true, true, true, true, false, false, false, false, false, false, false, false, false, false, false, false, false, false, false, false, false, false, false, false, false] rfl rfl (any_of rfl (by kernel_rfl)) (fun _ _ _ h => h) (Or.inl ⟨by rfl, ?_⟩) ?_ ?_
  rotate_left
  · intro w'
    go_simp
    with_reducible rfl
  rotate_left
  · simp only [Act.put, List.setIfInBounds_toArray, List.set_cons_zero, List.set_cons_succ, i64_w, i32_w]
    rfl
  refine take_ (i := 11) (N := some 29) (v := ?_) (a' := ?_) #[true, true, true, true, true, true, true, true, true, true, true, true, false, false, false, false, false, false, false, false, false, false, false, false, false, false, false, false, false, false, false, false] rfl rfl (take_of rfl (by kernel_rfl)) (fun _ _ _ h => h) (Or.inl ⟨by rfl, ?_⟩) hHeld ?_ ?_
  rotate_left
  · rintro w' ⟨s0, s1, s2⟩
    go_simp
    with_reducible rfl
  rotate_left
  · simp only [Act.put, List.setIfInBounds_toArray, List.set_cons_zero, List.set_cons_succ, i64_w, i32_w]
    rfl
  refine one_ (i := 12) (N := some 30) #[true, true, true, true, true, true, true, true, true, true, true, true, true, false, false, false, false, false, false, false, false, false, false, false, false, false, false, false, false, false, false, false] rfl rfl (one_of rfl (by kernel_rfl)) (by decide) (fun K hK => ?_)
  refine goesV_ 60 Tryd.func60 (by kernel_rfl) rfl #[.slice A1 l1.length c1] (by rfl) rfl rfl rfl (by (try simp only [List.map_toArray, List.map_cons, List.map_nil]); first | done | rfl) ?_
  refine ((HO1.out Wd HB).mono ?_)
  rintro e W1 ⟨rfl, hb⟩
  refine ⟨_, rfl, ?_⟩
  replace BK := blk_below BK hb
  replace HB := HB.trans (hb.mono HB.size)
  refine hK.out _ _ ⟨(blk_cell BK 0).trans rfl, (blk_cell BK 1).trans rfl, (blk_cell BK 2).trans rfl⟩ (fun hHeld1 => ?_)
  clear hHeld hb
  have hHeld := hHeld1
  clear hHeld1
  clear hK K
  refine norm_ (a' := ?_) ?_ ?_
  rotate_left
  · show Act.put _ (some 30) _ = _
    simp only [Act.put, List.setIfInBounds_toArray, List.set_cons_zero, List.set_cons_succ, i64_w, i32_w]
    rfl
  refine pure_ (i := 13) (N := some 31) (v := ?_) (a' := ?_) #[true, true, true, true, true, true, true, true, true, true, true, true, true, true, false, false, false, false, false, false, false, false, false, false, false, false, false, false, false, false, false, false] rfl rfl (any_of rfl (by kernel_rfl)) (fun _ _ _ h => h) (Or.inl ⟨by rfl, ?_⟩) ?_ ?_
  rotate_left
  · intro w'
    go_simp
    with_reducible rfl
  rotate_left
  · simp only [Act.put, List.setIfInBounds_toArray, List.set_cons_zero, List.set_cons_succ, i64_w, i32_w]
    rfl
  refine pure_ (i := 14) (N := some 32) (v := ?_) (a' := ?_) #[true, true, true, true, true, true, true, true, true, true, true, true, true, true, true, false, false, false, false, false, false, false, false, false, false, false, false, false, false, false, false, false] rfl rfl (any_of rfl (by kernel_rfl)) (fun _ _ _ h => h) (Or.inl ⟨by rfl, ?_⟩) ?_ ?_
  rotate_left
  · intro w'
    go_simp
    with_reducible rfl
  rotate_left
  · simp only [Act.put, List.setIfInBounds_toArray, List.set_cons_zero, List.set_cons_succ, i64_w, i32_w]
    rfl
  refine pure_ (i := 15) (N := some 33) (v := ?_) (a' := ?_) #[true, true, true, true, true, true, true, true, true, true, true, true, true, true, true, true, false, false, false, false, false, false, false, false, false, false, false, false, false, false, false, false] rfl rfl (any_of rfl (by kernel_rfl)) (fun _ _ _ h => h) (Or.inl ⟨by rfl, ?_⟩) ?_ ?_
  rotate_left
  · intro w'
    go_simp
    with_reducible rfl
  rotate_left
  · simp only [Act.put, List.setIfInBounds_toArray, List.set_cons_zero, List.set_cons_succ, i64_w, i32_w]
    rfl
  refine pure_ (i := 16) (N := some 34) (v := ?_) (a' := ?_) #[true, true, true, true, true, true, true, true, true, true, true, true, true, true, true, true, true, false, false, false, false, false, false, false, false, false, false, false, false, false, false, false] rfl rfl (any_of rfl (by kernel_rfl)) (fun _ _ _ h => h) (Or.inl ⟨by rfl, ?_⟩) ?_ ?_
  rotate_left
  · intro w'
    go_simp
    with_reducible rfl
  rotate_left
  · simp only [Act.put, List.setIfInBounds_toArray, List.set_cons_zero, List.set_cons_succ, i64_w, i32_w]
    rfl
  refine take_ (i := 17) (N := some 35) (v := ?_) (a' := ?_) #[true, true, true, true, true, true, true, true, true, true, true, true, true, true, true, true, true, true, false, false, false, false, false, false, false, false, false, false, false, false, false, false] rfl rfl (take_of rfl (by kernel_rfl)) (fun _ _ _ h => h) (Or.inl ⟨by rfl, ?_⟩) hHeld ?_ ?_
  rotate_left
  · rintro w' ⟨s0, s1, s2⟩
    go_simp
    with_reducible rfl
  rotate_left
  · simp only [Act.put, List.setIfInBounds_toArray, List.set_cons_zero, List.set_cons_succ, i64_w, i32_w]
    rfl
  refine one_ (i := 18) (N := some 36) #[true, true, true, true, true, true, true, true, true, true, true, true, true, true, true, true, true, true, true, false, false, false, false, false, false, false, false, false, false, false, false, false] rfl rfl (one_of rfl (by kernel_rfl)) (by decide) (fun K hK => ?_)
  refine goesV_ 60 Tryd.func60 (by kernel_rfl) rfl #[.slice A2 l2.length c2] (by rfl) rfl rfl rfl (by (try simp only [List.map_toArray, List.map_cons, List.map_nil]); first | done | rfl) ?_
  refine ((HO2.out W1 HB).mono ?_)
  rintro e W2 ⟨rfl, hb⟩
  refine ⟨_, rfl, ?_⟩
  replace BK := blk_below BK hb
  replace HB := HB.trans (hb.mono HB.size)
  refine hK.out _ _ ⟨(blk_cell BK 0).trans rfl, (blk_cell BK 1).trans rfl, (blk_cell BK 2).trans rfl⟩ (fun hHeld1 => ?_)
  clear hHeld hb
  have hHeld := hHeld1
  clear hHeld1
  clear hK K
  refine norm_ (a' := ?_) ?_ ?_
  rotate_left
  · show Act.put _ (some 36) _ = _
    simp only [Act.put, List.setIfInBounds_toArray, List.set_cons_zero, List.set_cons_succ, i64_w, i32_w]
    rfl
  refine pure_ (i := 19) (N := some 37) (v := ?_) (a' := ?_) #[true, true, true, true, true, true, true, true, true, true, true, true, true, true, true, true, true, true, true, true, false, false, false, false, false, false, false, false, false, false, false, false] rfl rfl (any_of rfl (by kernel_rfl)) (fun _ _ _ h => h) (Or.inl ⟨by rfl, ?_⟩) ?_ ?_
  rotate_left
  · intro w'
    go_simp
    with_reducible rfl
  rotate_left
  · simp only [Act.put, List.setIfInBounds_toArray, List.set_cons_zero, List.set_cons_succ, i64_w, i32_w]
    rfl
  refine pure_ (i := 20) (N := some 38) (v := ?_) (a' := ?_) #[true, true, true, true, true, true, true, true, true, true, true, true, true, true, true, true, true, true, true, true, true, false, false, false, false, false, false, false, false, false, false, false] rfl rfl (any_of rfl (by kernel_rfl)) (fun _ _ _ h => h) (Or.inl ⟨by rfl, ?_⟩) ?_ ?_
  rotate_left
  · intro w'
    go_simp
    with_reducible rfl
  rotate_left
  · simp only [Act.put, List.setIfInBounds_toArray, List.set_cons_zero, List.set_cons_succ, i64_w, i32_w]
    rfl
  refine pure_ (i := 21) (N := some 39) (v := ?_) (a' := ?_) #[true, true, true, true, true, true, true, true, true, true, true, true, true, true, true, true, true, true, true, true, true, true, false, false, false, false, false, false, false, false, false, false] rfl rfl (any_of rfl (by kernel_rfl)) (fun _ _ _ h => h) (Or.inl ⟨by rfl, ?_⟩) ?_ ?_
  rotate_left
  · intro w'
    go_simp
    with_reducible rfl
  rotate_left
  · simp only [Act.put, List.setIfInBounds_toArray, List.set_cons_zero, List.set_cons_succ, i64_w, i32_w]
    rfl
  refine take_ (i := 22) (N := some 40) (v := ?_) (a' := ?_) #[true, true, true, true, true, true, true, true, true, true, true, true, true, true, true, true, true, true, true, true, true, true, true, false, false, false, false, false, false, false, false, false] rfl rfl (take_of rfl (by kernel_rfl)) (fun _ _ _ h => h) (Or.inl ⟨by rfl, ?_⟩) hHeld ?_ ?_
  rotate_left
  · rintro w' ⟨s0, s1, s2⟩
    go_simp
    with_reducible rfl
  rotate_left
  · simp only [Act.put, List.setIfInBounds_toArray, List.set_cons_zero, List.set_cons_succ, i64_w, i32_w]
    rfl
  refine pure_ (i := 23) (N := some 41) (v := ?_) (a' := ?_) #[true, true, true, true, true, true, true, true, true, true, true, true, true, true, true, true, true, true, true, true, true, true, true, true, false, false, false, false, false, false, false, false] rfl rfl (any_of rfl (by kernel_rfl)) (fun _ _ _ h => h) (Or.inl ⟨by rfl, ?_⟩) ?_ ?_
  rotate_left
  · intro w'
    go_simp
    with_reducible rfl
  rotate_left
  · simp only [Act.put, List.setIfInBounds_toArray, List.set_cons_zero, List.set_cons_succ, i64_w, i32_w]
    rfl
  refine pure_ (i := 24) (N := some 42) (v := ?_) (a' := ?_) #[true, true, true, true, true, true, true, true, true, true, true, true, true, true, true, true, true, true, true, true, true, true, true, true, true, false, false, false, false, false, false, false] rfl rfl (any_of rfl (by kernel_rfl)) (fun _ _ _ h => h) (Or.inl ⟨by rfl, ?_⟩) ?_ ?_
  rotate_left
  · intro w'
    go_simp
    with_reducible rfl
  rotate_left
  · simp only [Act.put, List.setIfInBounds_toArray, List.set_cons_zero, List.set_cons_succ, i64_w, i32_w]
    rfl
  refine pure_ (i := 25) (N := some 43) (v := ?_) (a' := ?_) #[true, true, true, true, true, true, true, true, true, true, true, true, true, true, true, true, true, true, true, true, true, true, true, true, true, true, false, false, false, false, false, false] rfl rfl (any_of rfl (by kernel_rfl)) (fun _ _ _ h => h) (Or.inl ⟨by rfl, ?_⟩) ?_ ?_
  rotate_left
  · intro w'
    go_simp
    with_reducible rfl
  rotate_left
  · simp only [Act.put, List.setIfInBounds_toArray, List.set_cons_zero, List.set_cons_succ, i64_w, i32_w]
    rfl
  refine pure_ (i := 26) (N := some 44) (v := ?_) (a' := ?_) #[true, true, true, true, true, true, true, true, true, true, true, true, true, true, true, true, true, true, true, true, true, true, true, true, true, true, true, false, false, false, false, false] rfl rfl (any_of rfl (by kernel_rfl)) (fun _ _ _ h => h) (Or.inl ⟨by rfl, ?_⟩) ?_ ?_
  rotate_left
  · intro w'
    go_simp
    with_reducible rfl
  rotate_left
  · simp only [Act.put, List.setIfInBounds_toArray, List.set_cons_zero, List.set_cons_succ, i64_w, i32_w]
    rfl
  refine take_ (i := 27) (N := some 45) (v := ?_) (a' := ?_) #[true, true, true, true, true, true, true, true, true, true, true, true, true, true, true, true, true, true, true, true, true, true, true, true, true, true, true, true, false, false, false, false] rfl rfl (take_of rfl (by kernel_rfl)) (fun _ _ _ h => h) (Or.inl ⟨by rfl, ?_⟩) hHeld ?_ ?_
  rotate_left
  · rintro w' ⟨s0, s1, s2⟩
    go_simp
    with_reducible rfl
  rotate_left
  · simp only [Act.put, List.setIfInBounds_toArray, List.set_cons_zero, List.set_cons_succ, i64_w, i32_w]
    rfl
  refine pure_ (i := 28) (N := some 46) (v := ?_) (a' := ?_) #[true, true, true, true, true, true, true, true, true, true, true, true, true, true, true, true, true, true, true, true, true, true, true, true, true, true, true, true, true, false, false, false] rfl rfl (any_of rfl (by kernel_rfl)) (fun _ _ _ h => h) (Or.inl ⟨by rfl, ?_⟩) ?_ ?_
  rotate_left
  · intro w'
    go_simp
    with_reducible rfl
  rotate_left
  · simp only [Act.put, List.setIfInBounds_toArray, List.set_cons_zero, List.set_cons_succ, i64_w, i32_w]
    rfl
  refine pure_ (i := 29) (N := some 47) (v := ?_) (a' := ?_) #[true, true, true, true, true, true, true, true, true, true, true, true, true, true, true, true, true, true, true, true, true, true, true, true, true, true, true, true, true, true, false, false] rfl rfl (any_of rfl (by kernel_rfl)) (fun _ _ _ h => h) (Or.inl ⟨by rfl, ?_⟩) ?_ ?_
  rotate_left
  · intro w'
    go_simp
    with_reducible rfl
  rotate_left
  · simp only [Act.put, List.setIfInBounds_toArray, List.set_cons_zero, List.set_cons_succ, i64_w, i32_w]
    rfl
  refine pure_ (i := 30) (N := some 48) (v := ?_) (a' := ?_) #[true, true, true, true, true, true, true, true, true, true, true, true, true, true, true, true, true, true, true, true, true, true, true, true, true, true, true, true, true, true, true, false] rfl rfl (any_of rfl (by kernel_rfl)) (fun _ _ _ h => h) (Or.inl ⟨by rfl, ?_⟩) ?_ ?_
  rotate_left
  · intro w'
    go_simp
    with_reducible rfl
  rotate_left
  · simp only [Act.put, List.setIfInBounds_toArray, List.set_cons_zero, List.set_cons_succ, i64_w, i32_w]
    rfl
  refine pure_ (i := 31) (N := some 49) (v := ?_) (a' := ?_) #[true, true, true, true, true, true, true, true, true, true, true, true, true, true, true, true, true, true, true, true, true, true, true, true, true, true, true, true, true, true, true, true] rfl rfl (any_of rfl (by kernel_rfl)) (fun _ _ _ h => h) (Or.inl ⟨by rfl, ?_⟩) ?_ ?_
  rotate_left
  · intro w'
    go_simp
    with_reducible rfl
  rotate_left
  · simp only [Act.put, List.setIfInBounds_toArray, List.set_cons_zero, List.set_cons_succ, i64_w, i32_w]
    rfl
  refine done_ (done_of rfl (by kernel_rfl)) ?_
  clear d1 d2 d3 d4 d5 d6 d7 hHeld
  go_wp2_with (go_at_call 52; refine (callsIn_wide.1 (digits_in 5 msg _)).mono ?_; rintro e w1 ⟨rfl, rfl⟩)
  have bO := Boxed.new W2 22 (.slice none 0 0)
  have bO' := bO.alloc (.cells #[.string msg] 9)
  have bM := blk_new (W2.alloc (.cells #[.slice none 0 0] 22)) (.cells #[.string msg] 9)
  rw [World.size_alloc] at bM
  have bM' : ((W2.alloc (.cells #[.slice none 0 0] 22)).alloc (.cells #[.string msg] 9)).cell? ⟨W2.heap.size + 1, 0, none⟩ = some (.string msg) := (blk_cell bM 0).trans rfl
  have BK0 := blk_alloc (blk_alloc BK (.cells #[.slice none 0 0] 22)) (.cells #[.string msg] 9)
  have HB0 := below_alloc (below_alloc HB (.cells #[.slice none 0 0] 22)) (.cells #[.string msg] 9)
  have hgl := blk_lt BK
  obtain ⟨W0, hW0⟩ : ∃ W0, (W2.alloc (.cells #[.slice none 0 0] 22)).alloc (.cells #[.string msg] 9) = W0 := ⟨_, rfl⟩
  have hsz : W0.heap.size = W2.heap.size + 2 := by rw [← hW0]; simp
  rw [hW0] at bO' bM' BK0 HB0 ⊢
  clear hW0 bO bM BK HB
  have hst := digits_stops 4 (by decide) (W2.heap.size + 1) msg hm W0 (by omega) bM'
  have hbase := HB0.size
  have h1o := holdsRow_own (β := List (Fin 18)) W0.heap.size W2.heap.size 22 9 1 (fun pre => pre.length) (fun pre => pre.map fun j => Value.string (endAt l1 (tx msg) j.val)) (fun pre v => True)
  have o1 : OwnFrom W0.heap.size (fun (pre : List (Fin 18)) W => ∃ v, Boxed W W2.heap.size 22 v ∧ W.ownsRow W0.heap.size 9 1 v pre.length (pre.map fun j => Value.string (endAt l1 (tx msg) j.val)) ∧ True) := fun pre X Y row hs hg hr => h1o pre X Y row hs hg (fun r e => (hr r e).2)
  have o2 : OwnFrom W0.heap.size (fun (pre : List (Fin 18)) W => W.heap[w.heap.size]? = some (.cells #[.int .i64 (idx : Int), .slice A1 l1.length c1, .slice A2 l2.length c2] 35 (0, 0))) := blk_own _ _ _ _
  have o3 : OwnFrom W0.heap.size (fun (pre : List (Fin 18)) W => Below w.heap.size w W) := ownFrom_below (Nat.le_refl _) (by omega)
  have o4 : OwnFrom W0.heap.size (fun (pre : List (Fin 18)) W => W0.heap.size ≤ W.heap.size) := fun _ X Y row h hg _ => Nat.le_trans h hg.size
  refine (wpIn_wide (n := 5)).1 ?_
  refine wpIn_rangeFunc_ownG rfl (by decide) (gf := 83) (lb := #[.pointer (some ⟨W2.heap.size + 1, 0, none⟩)]) rfl trivial (enters_of Tryd.func83 (by kernel_rfl) rfl)
    hst (fun _ _ => trivial) (fun _ _ _ _ _ _ _ _ => trivial) (Below.refl _ _) (fun _ => rfl) _ (fun _ _ _ => False) (OwnFrom.and (OwnFrom.and o1 o2) (OwnFrom.and o3 o4)) (fun _ _ _ _ _ hs _ _ => hs) ⟨⟨⟨_, bO', World.ownsRow_nil _ _ _ _, trivial⟩, BK0⟩, HB0, Nat.le_refl _⟩
    (fun x => { tmps := #[.string a0, .string msg, .agg #[.int .i64 (idx : Int), .slice A1 l1.length c1, .slice A2 l2.length c2], undef, undef, .pointer (some ⟨w.heap.size, 0, none⟩), .bool false, .int .i64 (l2.length : Int), .func (.func 60) #[] #[], .pointer (some ⟨W2.heap.size, 0, none⟩), .int .i64 ((x.val : Nat) : Int), .int .i64 ((dAt (tx msg) x.val : Nat) : Int), undef, undef, undef, .pointer (some ⟨w.heap.size, 2, none⟩), .slice A2 l2.length c2, .int .i64 (l2.length : Int), .pointer (some ⟨w.heap.size, 1, none⟩), .slice A1 l1.length c1, .int .i64 (l1.length : Int), .bool false, .bool false, .int .i64 (l2.length : Int), .bool false, .bool false, .bool false, .func (.func 60) #[] #[], .pointer (some ⟨w.heap.size, 1, none⟩), .slice A1 l1.length c1, .bool false, .bool false, .bool false, .func (.func 60) #[] #[], .pointer (some ⟨w.heap.size, 2, none⟩), .slice A2 l2.length c2, .bool false, .bool false, .bool false, .pointer (some ⟨w.heap.size, 0, none⟩), .int .i64 (idx : Int), .bool false, .bool false, .bool false, .pointer (some ⟨w.heap.size, 0, none⟩), .int .i64 (idx : Int), .int .i64 (l2.length : Int), .int .i64 (wrap64 ((2 : Int) ^ min l2.length 64)), .bool false, .bool false, .string msg, .func (.func 83) #[] #[.pointer (some ⟨W2.heap.size + 1, 0, none⟩)], .int .i64 ((x.val : Nat) : Int), .int .i64 ((dAt (tx msg) x.val : Nat) : Int), undef, undef, undef, undef, undef, undef, undef, undef, undef, undef, undef, undef, undef, undef, undef, undef, undef, undef, undef, undef, undef, undef, undef, undef, undef, undef, undef, undef, undef, undef, undef, undef, undef, undef], defers := [] }) ?assign ?body ?done ?stop
  case assign =>
    intro l x W K hK
    gi_wp2
    exact hK
  case stop =>
    rintro D c pre W _ _ h _
    exact h.elim
  case body =>
    rintro lr pre x W ⟨⟨⟨v, hv, hrow, -⟩, hbk⟩, hB, hN⟩ hlt
    dsimp only
    refine wpIn_block ?_
    refine region_in (noDefer_of (by kernel_rfl)) ?hlo (by kernel_rfl) ?_
    case hlo => rintro ⟨a, w', h⟩; exact h
    have hxl : x.val < l1.length := by have := x.isLt; have := HH.out.1; omega
    obtain ⟨ad, hA, hcell⟩ := Kd.at_string (Kd.C_below hr1 hB) ((x.val : Nat) : Int) (by omega) (by omega)
    subst hA
    rw [Int.toNat_natCast] at hcell
    unfold rdOf at hcell
    rw [Int.toNat_natCast] at hcell
    have hts := HH.out.2.2.1 _ (getD_mem hxl)
    have hd15 := dAt_le (tx msg) x.val
    obtain ⟨d, hd⟩ : ∃ d, d = dAt (tx msg) x.val := ⟨_, rfl⟩
    obtain ⟨ts, htse⟩ : ∃ ts, ts = l1.getD x.val ByteArray.empty := ⟨_, rfl⟩
    obtain ⟨t62, h62⟩ : ∃ r, r = endAt l1 (tx msg) x.val := ⟨_, rfl⟩
    rw [← htse] at hts hcell
    rw [← hd] at hd15 ⊢
    have hf2 : seal_chain.f ts ((15 - d : Nat) : Int) = some t62 := by
      rw [h62, sChain _ _ (by omega) (by omega), htse, hd]; rfl
    have Hr := Lib.hid (And.intro h62 (And.intro hd htse))
    have F2 := Lib.hid hf2
    clear hf2 h62 hd htse
    have hr0 := (hv.cell)
    refine wpAny_of_last (S := fun w' => w'.cell? ⟨W2.heap.size, 0, none⟩ = some v ∧ w'.cell? ⟨w.heap.size, 1, none⟩ = some (.slice (some ad) l1.length c1) ∧ w'.cell? (ad.add x.val) = some (.string ts)) (ds := [10, 11]) _ _ _ _ ?_
    show wpAnyLast _ _ _ _ _ _ 12 (#[false, false, false, false, false, false, false, false, false, false, false, false] : Array Bool) _ W.drew
    have hHeld : W.drew.cell? ⟨W2.heap.size, 0, none⟩ = some v ∧ W.drew.cell? ⟨w.heap.size, 1, none⟩ = some (.slice (some ad) l1.length c1) ∧ W.drew.cell? (ad.add x.val) = some (.string ts) := ⟨hr0, (blk_cell hbk 1).trans rfl, hcell⟩
    generalize hWd : W.drew = Wd at hHeld ⊢
    have hq1 : ((x.val : Nat) : Int) < (l1.length : Int) := by omega
    have hsub : IntKind.i64.wrap (15 - (d : Int)) = ((15 - d : Nat) : Int) := by rw [IntWalk.i64_in _ (by omega)]; omega
    refine take_ (i := 0) (N := some 54) (v := ?_) (a' := ?_) #[true, false, false, false, false, false, false, false, false, false, false, false] rfl rfl (take_of rfl (by kernel_rfl)) (fun _ _ _ h => h) (Or.inl ⟨by rfl, ?_⟩) hHeld ?_ ?_
    rotate_left
    · rintro w' ⟨s0, s1, s2⟩
      go_simp
      with_reducible rfl
    rotate_left
    · simp only [Act.put, List.setIfInBounds_toArray, List.set_cons_zero, List.set_cons_succ, i64_w, i32_w]
      rfl
    refine pure_ (i := 1) (N := some 55) (v := ?_) (a' := ?_) #[true, true, false, false, false, false, false, false, false, false, false, false] rfl rfl (any_of rfl (by kernel_rfl)) (fun _ _ _ h => h) (Or.inl ⟨by rfl, ?_⟩) ?_ ?_
    rotate_left
    · intro w'
      go_simp
      with_reducible rfl
    rotate_left
    · simp only [Act.put, List.setIfInBounds_toArray, List.set_cons_zero, List.set_cons_succ, i64_w, i32_w]
      rfl
    refine take_ (i := 2) (N := some 56) (v := ?_) (a' := ?_) #[true, true, true, false, false, false, false, false, false, false, false, false] rfl rfl (take_of rfl (by kernel_rfl)) (fun _ _ _ h => h) (Or.inl ⟨by rfl, ?_⟩) hHeld ?_ ?_
    rotate_left
    · rintro w' ⟨s0, s1, s2⟩
      go_simp
      with_reducible rfl
    rotate_left
    · simp only [Act.put, List.setIfInBounds_toArray, List.set_cons_zero, List.set_cons_succ, i64_w, i32_w]
      rfl
    refine pure_ (i := 3) (N := some 57) (v := ?_) (a' := ?_) #[true, true, true, true, false, false, false, false, false, false, false, false] rfl rfl (any_of rfl (by kernel_rfl)) (fun _ _ _ h => h) (Or.inl ⟨by rfl, ?_⟩) ?_ ?_
    rotate_left
    · intro w'
      go_simp
      with_reducible rfl
    rotate_left
    · simp only [Act.put, List.setIfInBounds_toArray, List.set_cons_zero, List.set_cons_succ, i64_w, i32_w]
      rfl
    refine pure_ (i := 4) (N := some 58) (v := ?_) (a' := ?_) #[true, true, true, true, true, false, false, false, false, false, false, false] rfl rfl (any_of rfl (by kernel_rfl)) (fun _ _ _ h => h) (Or.inl ⟨by rfl, ?_⟩) ?_ ?_
    rotate_left
    · intro w'
      go_simp
      with_reducible rfl
    rotate_left
    · simp only [Act.put, List.setIfInBounds_toArray, List.set_cons_zero, List.set_cons_succ, i64_w, i32_w]
      rfl
    refine take_ (i := 5) (N := some 59) (v := ?_) (a' := ?_) #[true, true, true, true, true, true, false, false, false, false, false, false] rfl rfl (take_of rfl (by kernel_rfl)) (fun _ _ _ h => h) (Or.inl ⟨by rfl, ?_⟩) hHeld ?_ ?_
    rotate_left
    · rintro w' ⟨s0, s1, s2⟩
      go_simp
      with_reducible rfl
    rotate_left
    · simp only [Act.put, List.setIfInBounds_toArray, List.set_cons_zero, List.set_cons_succ, i64_w, i32_w]
      rfl
    refine pure_ (i := 6) (N := some 60) (v := ?_) (a' := ?_) #[true, true, true, true, true, true, true, false, false, false, false, false] rfl rfl (any_of rfl (by kernel_rfl)) (fun _ _ _ h => h) (Or.inl ⟨by rfl, ?_⟩) ?_ ?_
    rotate_left
    · intro w'
      go_simp
      with_reducible rfl
    rotate_left
    · simp only [Act.put, List.setIfInBounds_toArray, List.set_cons_zero, List.set_cons_succ, i64_w, i32_w]
      rfl
    refine pure_ (i := 7) (N := some 61) (v := ?_) (a' := ?_) #[true, true, true, true, true, true, true, true, false, false, false, false] rfl rfl (any_of rfl (by kernel_rfl)) (fun _ _ _ h => h) (Or.inl ⟨by rfl, ?_⟩) ?_ ?_
    rotate_left
    · intro w'
      go_simp
      with_reducible rfl
    rotate_left
    · simp only [Act.put, List.setIfInBounds_toArray, List.set_cons_zero, List.set_cons_succ, i64_w, i32_w]
      rfl
    have hbd : Below w.heap.size w Wd := by rw [← hWd]; exact hB.drew
    have bv : Boxed Wd W2.heap.size 22 v := by rw [← hWd]; exact hv
    have brow : Wd.ownsRow W0.heap.size 9 1 v pre.length (pre.map fun j => Value.string (endAt l1 (tx msg) j.val)) := by rw [← hWd]; exact hrow.drew
    have bk : Wd.heap[w.heap.size]? = some (.cells #[.int .i64 (idx : Int), .slice (some ad) l1.length c1, .slice A2 l2.length c2] 35 (0, 0)) := by rw [← hWd]; exact hbk
    have k1 : KeepsOthers W Wd := by rw [← hWd]; exact KeepsOthers.drew W
    have hNd : W0.heap.size ≤ Wd.heap.size := Nat.le_trans hN k1.size
    have hadl : (ad.add x.val).block < w.heap.size := by
      obtain ⟨ad', hA', hcell'⟩ := Kd.at_string hr1 ((x.val : Nat) : Int) (by omega) (by omega)
      cases hA'
      rw [Int.toNat_natCast] at hcell'
      exact World.block_lt_of_cell? _ _ hcell'
    clear hr0 hsub hq1 hv hrow hbk hcell hWd
    refine one_ (i := 8) (N := some 62) #[true, true, true, true, true, true, true, true, true, false, false, false] rfl rfl (one_of rfl (by kernel_rfl)) (by decide) (fun K hK => ?_)
    refine goes_ Tryd.func53 (by kernel_rfl) rfl #[.string ts, .int .i64 ((15 - d : Nat) : Int)] (by rfl) rfl rfl (by (try simp only [List.map_toArray, List.map_cons, List.map_nil]); first | done | rfl) ?_
    refine (seal_chain.calls _ _ t62 Wd F2.out).mono ?_
    rintro e W3 ⟨rfl, hb2⟩
    refine ⟨_, rfl, ?_⟩
    have hgd2 : Wd.grownBy W3 none := ⟨hb2.os, hb2.tape, hb2.output, hb2.size, fun k hk _ => hb2.block k hk⟩
    replace bv := bv.kept hgd2 (by simp)
    replace brow := brow.kept hgd2 (Classical.em _)
    replace bk := blk_below bk hb2
    replace hbd := hbd.trans (hb2.mono hbd.size)
    replace k1 := k1.trans (KeepsOthers.of_grownBy (row := none) hgd2 (fun j o ej _ => by cases ej))
    replace hNd := Nat.le_trans hNd hb2.size
    refine hK.out _ _ ⟨bv.cell, (blk_cell bk 1).trans rfl, (hb2.cell (World.block_lt_of_cell? _ _ hHeld.2.2)).trans hHeld.2.2⟩ (fun hHeld1 => ?_)
    clear hHeld hb2 hgd2
    have hHeld := hHeld1
    clear hHeld1
    clear hK K
    refine norm_ (a' := ?_) ?_ ?_
    rotate_left
    · show Act.put _ (some 62) _ = _
      simp only [Act.put, List.setIfInBounds_toArray, List.set_cons_zero, List.set_cons_succ, i64_w, i32_w]
      rfl
    refine one_ (i := 9) (N := some 63) #[true, true, true, true, true, true, true, true, true, true, false, false] rfl rfl (one_of rfl (by kernel_rfl)) (by decide) (fun K hK => ?_)
    refine value_ (w1 := ?_) (v := ?_) (by rfl) rfl ?_ ?_
    rotate_left 2
    · go_simp
      constructor
      · rfl
      · rfl
    refine hK.out _ _ ⟨(bv.alloc _).cell, (blk_cell (blk_alloc bk _) 1).trans rfl, (World.cell?_alloc_lt _ _ _ (World.block_lt_of_cell? _ _ hHeld.2.2)).trans hHeld.2.2⟩ (fun hHeld1 => ?_)
    clear hHeld hHeld1
    clear hK K
    refine norm_ (a' := ?_) ?_ ?_
    rotate_left
    · show Act.put _ (some 63) _ = _
      simp only [Act.put, List.setIfInBounds_toArray, List.set_cons_zero, List.set_cons_succ, i64_w, i32_w]
      rfl
    refine last_ (i := 10) (N := some 64) #[true, true, true, true, true, true, true, true, true, true, true, false] rfl rfl (one_of rfl (by kernel_rfl)) (by decide) (fun K hK => ?_)
    refine step_append_cells (w0 := W3) W0.heap.size ?hwant (.tmp 54) (.tmp 63) 22 9 (.string ⟨#[]⟩) 1 16 ?hop Tryd.underlying22 PCb.info9 rfl (by decide) (by omega) v pre.length _ [.string t62] ?hsv ?hxv rfl (by simp [Value.oneCell']) brow (Below.refl _ _) hNd (by omega) ?_
    (case hop => rfl)
    (case hwant => rfl)
    (case hsv => rfl)
    (case hxv => rfl)
    intro v1 w2 hown2 hb2 hg2 hat2
    obtain ⟨g', cap', rfl⟩ := ownsRow_succ hown2
    refine hK.out _ _ ?_
    clear hK K
    refine norm_ (a' := ?_) ?_ ?_
    rotate_left
    · show Act.put _ (some 64) _ = _
      simp only [Act.put, List.setIfInBounds_toArray, List.set_cons_zero, List.set_cons_succ, i64_w, i32_w]
      rfl
    have bv2 : Boxed w2 W2.heap.size 22 v := bv.kept hg2 (row_ne brow (by omega))
    have bk2 := blk_grown bk hg2 (row_ne brow (by omega))
    have hc2' := bv2.cell
    have hf2' := bv2.frozen
    refine last_ (i := 11) (N := none) #[true, true, true, true, true, true, true, true, true, true, true, true] rfl rfl (one_of rfl (by kernel_rfl)) (by decide) (fun K hK => ?_)
    refine skip_ (w1 := ?_) (by rfl) rfl ?_ ?_
    rotate_left
    · go_simp
      rfl
    refine hK.out _ _ ?_
    clear hK K
    refine done_ (done_of rfl (by kernel_rfl)) ?_
    clear hc2' hf2'
    have k2 : KeepsOthers W3 w2 := KeepsOthers.of_grownBy hg2 fun j o ej hj => by
      rcases brow.2 with ⟨rfl, _⟩ | ⟨g, cap, cur, rfl, _, hgb, _⟩
      · simp [Value.ownBlock] at ej
      · obtain rfl : j = g := by simpa [Value.ownBlock] using ej.symm
        rw [hgb] at hj; cases hj; rfl
    have k3 := (k1.trans k2).trans (KeepsOthers.setCell w2 ⟨W2.heap.size, 0, none⟩ (.slice (some ⟨g', 0, none⟩) (pre.length + 1) cap'))
    have hB3 : Below w.heap.size w (w2.setCell ⟨W2.heap.size, 0, none⟩ (.slice (some ⟨g', 0, none⟩) (pre.length + 1) cap')) := (hbd.trans (hb2.mono (by omega))).setCell (p := ⟨W2.heap.size, 0, none⟩) (by show w.heap.size ≤ W2.heap.size; omega) _
    have bv3 := bv2.set (.slice (some ⟨g', 0, none⟩) (pre.length + 1) cap')
    have hown3 := hown2.kept (grownBy_setCell' w2 W2.heap.size (.slice (some ⟨g', 0, none⟩) (pre.length + 1) cap')) (.inr (row_ne hown2 (by omega)).symm)
    refine ⟨k3.from _, trivial, ⟨⟨_, bv3, ?_, trivial⟩, ?_⟩, hB3, Nat.le_trans hN k3.size⟩
    · rw [List.length_append, List.map_append, List.map_cons, List.map_nil, ← Hr.out.1]
      exact hown3
    · exact blk_far bk2 (p := ⟨W2.heap.size, 0, none⟩) (by show w.heap.size ≠ W2.heap.size; omega) _
  case done =>
    rintro D ys W hD rfl ⟨⟨⟨v, hv, hrow, -⟩, hbk⟩, hB, hN⟩ hK
    gi_wp2
    rw [List.length_finRange] at hrow
    have hV0 : Kd.R Kd.string 9 W W0.heap.size (fun _ => True) v (endsL l1 (tx msg)) := by
      have e : encs Value.string (endsL l1 (tx msg)) = (List.finRange 18).map fun j => Value.string (endAt l1 (tx msg) j.val) := by unfold encs endsL; rw [List.map_map]; rfl
      refine Kd.R_of_own ?_ (fun _ _ => trivial)
      rw [e, endsL_len]
      exact hrow
    obtain ⟨Av, cv, rfl⟩ := Kd.R_slice hV0
    obtain ⟨_, hcv, hVC⟩ := Kd.R_reads' hV0
    have HC := Lib.hid (seal_of.calls Av cv (endsL l1 (tx msg)) _ W hVC hcv (sOf _ HH.out.2.2.2.2) (Glob.below hG hB))
    have hvc := hv.cell
    have hDl := blk_lt hK
    clear hrow hst o1 o2 o3 o4 h1o bM' BK0 HB0 bO' hV0 hVC hcv hv hr1 HO1 HO2
    generalize hX0 : Dig.lst ((endsL l1 (tx msg)).map tx) = X0 at HC
    have HX0 := Lib.hid hX0
    clear hX0
    go_wp2_with (go_at_call 63; refine HC.out.mono ?_; rintro e w3 ⟨rfl, hb3⟩; have bk3 := blk_below hbk hb3; have hgc1 : w3.cell? ⟨w.heap.size, 1, none⟩ = some (.slice A1 l1.length c1) := (blk_cell bk3 1).trans rfl; have hgc2 : w3.cell? ⟨w.heap.size, 2, none⟩ = some (.slice A2 l2.length c2) := (blk_cell bk3 2).trans rfl)
    clear hgc1 hgc2 hvc HC
    have hL0 : VerLoop idx l2 w (.cells #[.int .i64 (idx : Int), .slice A1 l1.length c1, .slice A2 l2.length c2] 35 (0, 0)) D X0 (.string (ofT X0)) (.int .i64 0) w3 :=
      ⟨0, Nat.zero_le _, rfl, rfl, bk3, blk_below hK hb3, hB.trans (hb3.mono hB.size)⟩
    go_loopw [12, 70] (fun at_ c wr => VerLoop idx l2 w (.cells #[.int .i64 (idx : Int), .slice A1 l1.length c1, .slice A2 l2.length c2] 35 (0, 0)) D X0 at_ c wr) (fun _ c _ => l2.length - (intOf c).toNat)
    case atStart => exact hL0
    case round =>
      clear hL0
      obtain ⟨k, hk, rfl, rfl, bk, gD, hBr⟩ := hrel
      have hg0 : wr.cell? ⟨w.heap.size, 0, none⟩ = some (.int .i64 (idx : Int)) := (blk_cell bk 0).trans rfl
      by_cases hlt : k < l2.length
      · obtain ⟨ad, hA, hcell⟩ := Kd.at_string (Kd.C_below hr2 hBr) (k : Int) (by omega) (by omega)
        subst hA
        rw [Int.toNat_natCast] at hcell
        unfold rdOf at hcell
        rw [Int.toNat_natCast] at hcell
        have hq1 : (k : Int) < (l2.length : Int) := by omega
        have hts := HH.out.2.2.2.1 _ (getD_mem hlt)
        have hk8 : k < 8 := by have := HH.out.2.1; omega
        obtain ⟨ot, hot⟩ : ∃ ot, ot = l2.getD k ByteArray.empty := ⟨_, rfl⟩
        rw [← hot] at hcell hts
        have HOT := Lib.hid hot
        clear hot
        have hcl : (Dig.climb X0 idx ((l2.map tx).take k)).length = 16 := climb_len (by rw [← HX0.out]; exact Dig.sum_len _) _ _
        have HN := Lib.hid (fun hG' => seal_node.calls (ofT (Dig.climb X0 idx ((l2.map tx).take k))) ot (bits .and .i64 ((idx : Int) / 2 ^ k) 1 == 1) _ wr
          (if_pos ⟨by unfold Small; rw [size_ofT, hcl]; decide, by unfold Small; omega⟩) hG')
        have HGr := Lib.hid (Glob.below hG hBr)
        clear hcl hts
        go_wp2_with (go_at_call 64; refine (HN.out HGr.out).mono ?_; rintro e w4 ⟨rfl, hb4⟩)
        clear HN HGr
        go_roundw
        case rel =>
          refine ⟨k + 1, by omega, by first | rfl | (congr 1; omega), ?_, blk_below bk hb4, blk_below gD hb4, hBr.trans (hb4.mono hBr.size)⟩
          have e1 : (l2.map tx).take (k + 1) = (l2.map tx).take k ++ [tx ot] := by
            rw [List.take_add_one, List.getElem?_map, List.getElem?_eq_getElem hlt, HOT.out, List.getD_eq_getElem?_getD, List.getElem?_eq_getElem hlt]; rfl
          have e2 : ((l2.map tx).take k).length = k := by rw [List.length_take, List.length_map]; omega
          rw [e1, Dig.climb_snoc, e2, stepB_stepT _ _ (by omega)]
          rfl
        case measure => simp [intOf]; omega
      · obtain rfl : k = l2.length := by omega
        clear hg0
        go_wp2
        have hDl' := blk_lt gD
        refine ⟨by simp, .inl ⟨_, _, rfl, run_takeDeferred gD, ?_⟩⟩
        refine ⟨_, results_tmp rfl _ _ _, ?_, hBr.trans (belowK_b (w := w) (Nat.le_refl _) wr D _ _ (by omega) gD rfl rfl)⟩
        show Ending.returned (.bool _) = _
        unfold climbB
        rw [List.take_of_length_le (by rw [List.length_map]; exact Nat.le_refl _), HX0.out]
end Go.Proofs.YteleheamnighkaaDoor
end
section
set_option linter.unusedVariables false
set_option linter.unusedSimpArgs false
namespace Go.Proofs.YteleheamnighkaaDoor
open Go.RowKit Go.Shelf Go.DoorKit Go.DoorRound Go.Proofs.YteleheamnighkaaDoorW.PrintWords Go.Proofs.YteleheamnighkaaDoorW.PrintLast Go.Proofs.YteleheamnighkaaDoorW.PrintMore
theorem isD_len {t : Dig.Txt} (h : Dig.isD t = true) : t.length = 16 := by
  unfold Dig.isD at h
  simp only [Bool.and_eq_true, beq_iff_eq, decide_eq_true_eq] at h
  exact h.1
theorem oddB_false {l : List ByteArray} (h : oddB l = false) : ∀ s ∈ l, Dig.isD (tx s) = true := by
  intro s hs
  unfold oddB at h
  have := List.any_eq_false.1 h s hs
  simpa using this
theorem oddB_size {l : List ByteArray} (h : oddB l = false) : ∀ s ∈ l, s.size = 16 := fun s hs => by
  have := isD_len (oddB_false h s hs)
  rwa [tx_len] at this
def verOk (idx : Int) (l1 l2 : List ByteArray) : Prop := l1.length = 18 ∧ l2.length ≤ 8 ∧ oddB l1 = false ∧ oddB l2 = false ∧ 0 ≤ idx ∧ idx < ((2 ^ l2.length : Nat) : Int)
instance (idx : Int) (l1 l2 : List ByteArray) : Decidable (verOk idx l1 l2) := inferInstanceAs (Decidable (l1.length = 18 ∧ l2.length ≤ 8 ∧ oddB l1 = false ∧ oddB l2 = false ∧ 0 ≤ idx ∧ idx < ((2 ^ l2.length : Nat) : Int)))
def verR (a0 msg : ByteArray) (idx : Int) (l1 l2 : List ByteArray) : Bool := if verOk idx l1 l2 then climbB a0 msg idx.toNat l1 l2 else false
def verIn (msg : ByteArray) (l1 l2 : List ByteArray) : Prop := Big msg.size ∧ (∀ s ∈ l1, Big s.size) ∧ (∀ s ∈ l2, Big s.size) ∧ l1.length ≤ 1000000 ∧ l2.length ≤ 1000000
instance (msg : ByteArray) (l1 l2 : List ByteArray) : Decidable (verIn msg l1 l2) := inferInstanceAs (Decidable (Big msg.size ∧ (∀ s ∈ l1, Big s.size) ∧ (∀ s ∈ l2, Big s.size) ∧ l1.length ≤ 1000000 ∧ l2.length ≤ 1000000))
def seal_Verify.f (a0 a1 : ByteArray) (a2_0 : Int) (l2_1 l2_2 : List ByteArray) : Option Bool := if verIn a1 l2_1 l2_2 then some (verR a0 a1 a2_0 l2_1 l2_2) else none
theorem seal_Verify.calls (a0 : ByteArray) (a1 : ByteArray) (a2_0 : Int) (A2_1 : Option Addr) (c2_1 : Nat) (l2_1 : List ByteArray) (A2_2 : Option Addr) (c2_2 : Nat) (l2_2 : List ByteArray) (r : Bool) (w : World) (hr2_1 : Kd.C Kd.string w A2_1 l2_1.length l2_1) (hc2_1 : l2_1.length ≤ c2_1) (hr2_2 : Kd.C Kd.string w A2_2 l2_2.length l2_2) (hc2_2 : l2_2.length ≤ c2_2) (h : seal_Verify.f a0 a1 a2_0 l2_1 l2_2 = some r) (hG : Glob w) :
    Calls Tryd.prog 33 #[.string a0, .string a1, .agg #[.int .i64 a2_0, .slice A2_1 l2_1.length c2_1, .slice A2_2 l2_2.length c2_2]] w fun e w' => e = .returned (.bool r) ∧ Below w.heap.size w w' := by
  obtain ⟨⟨hm, hb1, hb2, hn1, hn2⟩, hr⟩ := if_out h
  unfold verR at hr
  by_cases h1 : l2_1.length = 18
  · by_cases h2 : l2_2.length ≤ 8
    · cases ho1 : oddB l2_1 with
      | true =>
        rw [if_neg (fun k => by have := k.2.2.1; rw [ho1] at this; cases this)] at hr
        subst hr
        exact ver_bad3 a0 a1 a2_0 A2_1 A2_2 c2_1 c2_2 l2_1 l2_2 w h1 h2 (oddOf hr2_1 hc2_1 hb1 hn1 ho1)
      | false =>
        cases ho2 : oddB l2_2 with
        | true =>
          rw [if_neg (fun k => by have := k.2.2.2.1; rw [ho2] at this; cases this)] at hr
          subst hr
          exact ver_bad4 a0 a1 a2_0 A2_1 A2_2 c2_1 c2_2 l2_1 l2_2 w h1 h2 (oddOf hr2_1 hc2_1 hb1 hn1 ho1) (oddOf hr2_2 hc2_2 hb2 hn2 ho2)
        | false =>
          by_cases h5 : a2_0 < 0
          · rw [if_neg (fun k => absurd k.2.2.2.2.1 (by omega))] at hr
            subst hr
            exact ver_bad5 a0 a1 a2_0 A2_1 A2_2 c2_1 c2_2 l2_1 l2_2 w h1 h2 (oddOf hr2_1 hc2_1 hb1 hn1 ho1) (oddOf hr2_2 hc2_2 hb2 hn2 ho2) h5
          · by_cases h6 : ((2 ^ l2_2.length : Nat) : Int) ≤ a2_0
            · rw [if_neg (fun k => absurd k.2.2.2.2.2 (by omega))] at hr
              subst hr
              exact ver_bad6 a0 a1 a2_0 A2_1 A2_2 c2_1 c2_2 l2_1 l2_2 w h1 h2 (oddOf hr2_1 hc2_1 hb1 hn1 ho1) (oddOf hr2_2 hc2_2 hb2 hn2 ho2) (by omega) h6
            · obtain ⟨i, rfl⟩ := Int.eq_ofNat_of_zero_le (show 0 ≤ a2_0 by omega)
              rw [if_pos ⟨h1, h2, ho1, ho2, by omega, by omega⟩, Int.toNat_natCast] at hr
              subst hr
              exact callsIn_wide.1 (ver_in a0 a1 i A2_1 A2_2 c2_1 c2_2 l2_1 l2_2 w h1 h2 (oddOf hr2_1 hc2_1 hb1 hn1 ho1) (oddOf hr2_2 hc2_2 hb2 hn2 ho2) hr2_1 hr2_2 (oddB_size ho1) (oddB_size ho2) hc2_1 hc2_2 (by omega) hm hG)
    · rw [if_neg (fun k => absurd k.2.1 h2)] at hr
      subst hr
      exact ver_bad2 a0 a1 a2_0 A2_1 A2_2 c2_1 c2_2 l2_1 l2_2 w h1 (by omega)
  · rw [if_neg (fun k => absurd k.1 h1)] at hr
    subst hr
    exact ver_bad1 a0 a1 a2_0 A2_1 A2_2 c2_1 c2_2 l2_1 l2_2 w h1
end Go.Proofs.YteleheamnighkaaDoor
end
section
namespace Go.Proofs.YteleheamnighkaaDoor.PCe
open Go.RowKit Go.Proofs.YteleheamnighkaaDoorW.PrintWords Go.Proofs.YteleheamnighkaaDoorW.PrintLast Go.Proofs.YteleheamnighkaaDoorW.PrintMore
attribute [local go_sem] max2_int min2_int max_two min_two max_three min_three max_four min_four   -- for this text's walks alone
set_option linter.unusedVariables false
set_option linter.unusedSimpArgs false
def errW : Option Int → Value
  | none => .nilIface
  | some c => .iface 0 (.int .i64 c)
theorem errW_none : errW none = .nilIface := rfl
theorem errW_some (c : Int) : errW (some c) = .iface 0 (.int .i64 c) := rfl
theorem info9 : (Tryd.prog.info? 9).map (fun i => (i.zero, i.size, i.bytes)) = some (some (.string ⟨#[]⟩), 1, 16) := by kernel_rfl
end Go.Proofs.YteleheamnighkaaDoor.PCe
end
section
set_option linter.unusedVariables false
set_option linter.unusedSimpArgs false
namespace Go.Proofs.YteleheamnighkaaDoor
open Go.RowKit Go.DoorKit Go.Proofs.YteleheamnighkaaDoorW.PrintWords
theorem pathL_succ (s : Dig.Txt) (i j : Nat) : pathL s i (j + 1) = pathL s i j ++ [ofT (Dig.tree s j (Dig.sib (i / 2 ^ j)))] := by
  unfold pathL; rw [List.range_succ, List.map_append]; rfl
theorem finMap {α : Type} (f : Nat → α) : (List.finRange 18).map (fun j => f j.val) = (List.range 18).map f := by
  have : (List.finRange 18).map Fin.val = List.range 18 := by decide
  rw [← this, List.map_map]; rfl
def sigTo (s : Dig.Txt) (i : Nat) (m : Dig.Txt) (j : Nat) : List ByteArray := (List.range j).map (sigAt s i m)
theorem sigTo_all (s : Dig.Txt) (i : Nat) (m : Dig.Txt) : sigTo s i m 18 = sigL s i m := (finMap (sigAt s i m)).symm
end Go.Proofs.YteleheamnighkaaDoor
end
section
set_option linter.unusedVariables false
set_option linter.unusedSimpArgs false
namespace Go.Proofs.YteleheamnighkaaDoor
open Go.RowKit Go.DoorKit Go.Proofs.YteleheamnighkaaDoorW.PrintWords
def endsTo (l : List ByteArray) (m : Dig.Txt) (j : Nat) : List ByteArray := (List.range j).map (endAt l m)
theorem endsTo_all (l : List ByteArray) (m : Dig.Txt) : endsTo l m 18 = endsL l m := (finMap (endAt l m)).symm
end Go.Proofs.YteleheamnighkaaDoor
end
section
namespace Go.Proofs.YteleheamnighkaaDoor.PCd
open Go.RowKit Go.Proofs.YteleheamnighkaaDoorW.PrintWords Go.Proofs.YteleheamnighkaaDoorW.PrintLast Go.Proofs.YteleheamnighkaaDoorW.PrintMore
attribute [local go_sem] max2_int min2_int max_two min_two max_three min_three max_four min_four   -- for this text's walks alone
set_option linter.unusedVariables false
set_option linter.unusedSimpArgs false
def errW : Option Int → Value
  | none => .nilIface
  | some c => .iface 0 (.int .i64 c)
theorem errW_none : errW none = .nilIface := rfl
theorem errW_some (c : Int) : errW (some c) = .iface 0 (.int .i64 c) := rfl
theorem info9 : (Tryd.prog.info? 9).map (fun i => (i.zero, i.size, i.bytes)) = some (some (.string ⟨#[]⟩), 1, 16) := by kernel_rfl
end Go.Proofs.YteleheamnighkaaDoor.PCd
end
section
namespace Go.Proofs.YteleheamnighkaaDoor.PCd
open Go.RowKit Go.Proofs.YteleheamnighkaaDoorW.PrintWords Go.Proofs.YteleheamnighkaaDoorW.PrintLast Go.Proofs.YteleheamnighkaaDoorW.PrintMore
attribute [local go_sem] max2_int min2_int max_two min_two max_three min_three max_four min_four   -- for this text's walks alone
set_option linter.unusedVariables false
set_option linter.unusedSimpArgs false
mutual
def planisphereref02_Few.l0 : Nat → Int → Int → List ByteArray → List ByteArray → Option (Bool)
  | 0, _, _, _, _ => none
  | k + 1, x3, x115000, x115001, x115002 => if x3 < (x115001.length : Int) then (planisphereref02_Few.j1 k x3 (decide (x3 < 30)) x115000 x115001 x115002) else (planisphereref02_Few.j1 k x3 false x115000 x115001 x115002)
def planisphereref02_Few.j1 : Nat → Int → Bool → Int → List ByteArray → List ByteArray → Option (Bool)
  | 0, _, _, _, _, _ => none
  | k + 1, x3, x13, x115000, x115001, x115002 => if x13 = true then (if 0 ≤ x3 then (if x3 < (x115001.length : Int) then (if ((rdOf ByteArray.empty x115001 x3).size : Int) > 100 then (some false) else (planisphereref02_Few.l0 k (wrap64 (x3 + 1)) x115000 x115001 x115002)) else (none)) else (none)) else (planisphereref02_Few.l1 k 0 x115000 x115001 x115002)
def planisphereref02_Few.l1 : Nat → Int → Int → List ByteArray → List ByteArray → Option (Bool)
  | 0, _, _, _, _ => none
  | k + 1, x4, x115000, x115001, x115002 => if x4 < (x115002.length : Int) then (planisphereref02_Few.j3 k x4 (decide (x4 < 30)) x115000 x115001 x115002) else (planisphereref02_Few.j3 k x4 false x115000 x115001 x115002)
def planisphereref02_Few.j3 : Nat → Int → Bool → Int → List ByteArray → List ByteArray → Option (Bool)
  | 0, _, _, _, _, _ => none
  | k + 1, x4, x31, x115000, x115001, x115002 => if x31 = true then (if 0 ≤ x4 then (if x4 < (x115002.length : Int) then (if ((rdOf ByteArray.empty x115002 x4).size : Int) > 100 then (some false) else (planisphereref02_Few.l1 k (wrap64 (x4 + 1)) x115000 x115001 x115002)) else (none)) else (none)) else (if (x115001.length : Int) ≤ 30 then (some (decide ((x115002.length : Int) ≤ 30))) else (some false))
end
def planisphereref02_Few.f (k : Nat) (a0_0 : Int) (l0_1 : List ByteArray) (l0_2 : List ByteArray) : Option (Bool) := planisphereref02_Few.l0 k 0 a0_0 l0_1 l0_2
set_option maxHeartbeats 8000000 in
set_option maxRecDepth 100000 in
theorem planisphereref02_Few.calls (k : Nat) (a0_0 : Int) (A0_1 : Option Addr) (c0_1 : Nat) (l0_1 : List ByteArray) (A0_2 : Option Addr) (c0_2 : Nat) (l0_2 : List ByteArray) (r : Bool) (w : World) (hr0_1 : Kd.C Kd.string w A0_1 l0_1.length l0_1) (hc0_1 : l0_1.length ≤ c0_1) (hr0_2 : Kd.C Kd.string w A0_2 l0_2.length l0_2) (hc0_2 : l0_2.length ≤ c0_2) (h : planisphereref02_Few.f k a0_0 l0_1 l0_2 = some r) :
    Calls Tryd.prog 27 #[.agg #[.int .i64 a0_0, .slice A0_1 l0_1.length c0_1, .slice A0_2 l0_2.length c0_2]] w fun e w' => e = .returned (.bool r) ∧ Below w.heap.size w w' := by
  have hu35 := Tryd.underlying35
  have HR0_1 := Aside0.mk hr0_1
  have HC0_1 := Aside0.mk hc0_1
  clear hr0_1 hc0_1
  have HR0_2 := Aside0.mk hr0_2
  have HC0_2 := Aside0.mk hc0_2
  clear hr0_2 hc0_2
  have HB := Aside0.mk (Below.refl w.heap.size w)
  have H : (planisphereref02_Few.l0 k 0 a0_0 l0_1 l0_2) = some r := h
  clear h
  have H' := Aside0.mk H
  clear H
  go_enter Tryd.func27, Tryd.ntmps27
  go_wp2_with (first | ((with_reducible refine gate_dst (N := 1) rfl ?_); (try (refine gate_guard (by rfl) ?_; dsimp only)); refine box_event ?hg (N := 1) ?hd (cs := #[.int .i64 a0_0, .slice A0_1 l0_1.length c0_1, .slice A0_2 l0_2.length c0_2]) (t := 35) ?hr ?_; (case hd => rfl); (case hg => rfl); (case hr => first | (go_simp; done) | (go_simp; rfl)); intro gb114 hg w2 hbox hb; have n0_ := Aside0.mk (below_step (by repeat (first | (with_reducible first | exact HB.out | apply below_alloc | apply pw_below_drewN | apply below_drew1) | exact HB.out)) hb); have n1_ := Aside0.mk (hbox); have n2_ := Aside0.mk ((by rw [hg]; exact (below_size (by repeat (first | (with_reducible first | exact HB.out | apply below_alloc | apply pw_below_drewN | apply below_drew1) | exact HB.out))) : w.heap.size ≤ gb114)); have n3_ := Aside0.mk ((by rw [hg]; exact (below_size (by repeat (first | (with_reducible first | exact HB.out | apply below_alloc | apply pw_below_drewN | apply below_drew1) | exact HB.out))) : w.heap.size ≤ gb114)); clear HB; have HB := n0_; have BK114 := n1_; have GW114 := n2_; have GE114 := n3_; clear n0_ n1_ n2_ n3_; clear hb hbox hg))
  go_loopg [3] k (fun kq v3 w' => ∃ (x3_1 : Int), v3 = .int .i64 x3_1 ∧ Aside0 (planisphereref02_Few.l0 kq x3_1 a0_0 l0_1 l0_2 = some r) ∧ Aside0 (kq ≤ k) ∧ Aside0 (w'.heap[gb114]? = some (.cells #[.int .i64 a0_0, (.slice A0_1 l0_1.length c0_1), (.slice A0_2 l0_2.length c0_2)] 35 (0, 0))) ∧ Aside0 (Below w.heap.size w w'))
  case atStart => exact ⟨(0), (by first | rfl | (simp; done) | (simp [*]; done)), H', ⟨Nat.le_refl _⟩, ⟨by (with_reducible repeat (first | refine blk_drewN ?_ _ | refine blk_drew ?_ | refine blk_alloc ?_ _)); exact BK114.out⟩, ⟨by repeat (first | (with_reducible first | exact HB.out | apply below_alloc | apply pw_below_drewN | apply below_drew1 | refine below_set ?_ GE114.out) | exact HB.out)⟩⟩
  case round =>
    clear H'
    try clear c2
    try clear p2
    obtain ⟨x3_1, rfl, HA, HK1, BK114, HB⟩ := hrel
    cases gk with
    | zero => exact absurd HA.out (by simp [planisphereref02_Few.l0])
    | succ k1 =>
      have H := HA.out
      clear HA
      simp only [planisphereref02_Few.l0] at H
      have HC3 := Aside0.mk H
      clear H
      go_upto_region 2 with (fail)
      go_cut [13] (fun v13 wc => ∃ (kq : Nat) (x13_2 : Bool), v13 = .bool x13_2 ∧ Aside0 (planisphereref02_Few.j1 kq x3_1 x13_2 a0_0 l0_1 l0_2 = some r) ∧ Aside0 (kq ≤ k1) ∧ Aside0 (wc.heap[gb114]? = some (.cells #[.int .i64 a0_0, (.slice A0_1 l0_1.length c0_1), (.slice A0_2 l0_2.length c0_2)] 35 (0, 0))) ∧ Aside0 (Below w.heap.size w wc))
      case first =>
        have H := HC3.out
        clear HC3
        by_cases c4 : x3_1 < (l0_1.length : Int)
        · rw [if_pos c4] at H
          have c4b0 : decide (x3_1 < (l0_1.length : Int)) = true := decide_eq_true c4
          clear c4
          (first | rw [c4b0] | (simp only [i64_w, i32_w]; rw [c4b0]) | skip)
          have H' := Aside0.mk H
          clear H
          have hcz5_0 : wr.cell? ⟨gb114, 0, none⟩ = some (.int .i64 a0_0) := (blk_cell BK114.out 0).trans rfl
          have hcz5_1 : wr.cell? ⟨gb114, 1, none⟩ = some (.slice A0_1 l0_1.length c0_1) := (blk_cell BK114.out 1).trans rfl
          have hcz5_2 : wr.cell? ⟨gb114, 2, none⟩ = some (.slice A0_2 l0_2.length c0_2) := (blk_cell BK114.out 2).trans rfl
          have hfz5_0 := blk_frozen BK114.out 0
          have hfz5_1 := blk_frozen BK114.out 1
          have hfz5_2 := blk_frozen BK114.out 2
          go_wp2
          go_meet
          case rel => exact ⟨_, (decide (x3_1 < 30)), (by first | rfl | (simp; done) | (simp [*]; done)), H', ⟨by have := HK1.out; first | omega | exact Nat.le_refl _⟩, ⟨by (with_reducible repeat (first | refine blk_drewN ?_ _ | refine blk_drew ?_ | refine blk_alloc ?_ _)); exact BK114.out⟩, ⟨by repeat (first | (with_reducible first | exact HB.out | apply below_alloc | apply pw_below_drewN | apply below_drew1 | refine below_set ?_ GE114.out) | exact HB.out)⟩⟩
        · rw [if_neg c4] at H
          have c4b0 : decide (x3_1 < (l0_1.length : Int)) = false := decide_eq_false c4
          clear c4
          (first | rw [c4b0] | (simp only [i64_w, i32_w]; rw [c4b0]) | skip)
          have H' := Aside0.mk H
          clear H
          have hcz6_0 : wr.cell? ⟨gb114, 0, none⟩ = some (.int .i64 a0_0) := (blk_cell BK114.out 0).trans rfl
          have hcz6_1 : wr.cell? ⟨gb114, 1, none⟩ = some (.slice A0_1 l0_1.length c0_1) := (blk_cell BK114.out 1).trans rfl
          have hcz6_2 : wr.cell? ⟨gb114, 2, none⟩ = some (.slice A0_2 l0_2.length c0_2) := (blk_cell BK114.out 2).trans rfl
          have hfz6_0 := blk_frozen BK114.out 0
          have hfz6_1 := blk_frozen BK114.out 1
          have hfz6_2 := blk_frozen BK114.out 2
          go_wp2
          go_meet
          case rel => exact ⟨_, (false), (by first | rfl | (simp; done) | (simp [*]; done)), H', ⟨by have := HK1.out; first | omega | exact Nat.le_refl _⟩, ⟨by (with_reducible repeat (first | refine blk_drewN ?_ _ | refine blk_drew ?_ | refine blk_alloc ?_ _)); exact BK114.out⟩, ⟨by repeat (first | (with_reducible first | exact HB.out | apply below_alloc | apply pw_below_drewN | apply below_drew1 | refine below_set ?_ GE114.out) | exact HB.out)⟩⟩
      case rest =>
        clear HC3
        try clear c2
        try clear p2
        try clear c4
        try clear c4b0
        try clear hcz5_0
        try clear hcz5_1
        try clear hcz5_2
        try clear hcz6_0
        try clear hcz6_1
        try clear hcz6_2
        try clear hfz5_0
        try clear hfz5_1
        try clear hfz5_2
        try clear hfz6_0
        try clear hfz6_1
        try clear hfz6_2
        try clear p2
        obtain ⟨kq, x13_2, rfl, HA, HJ2, BK114, HB⟩ := hcut
        cases kq with
        | zero => exact absurd HA.out (by simp [planisphereref02_Few.j1])
        | succ kj2 =>
          have H := HA.out
          clear HA
          simp only [planisphereref02_Few.j1] at H
          by_cases c7 : x13_2 = true
          · subst c7
            have H1 : (if 0 ≤ x3_1 then (if x3_1 < (l0_1.length : Int) then (if ((rdOf ByteArray.empty l0_1 x3_1).size : Int) > 100 then (some false) else (planisphereref02_Few.l0 kj2 (wrap64 (x3_1 + 1)) a0_0 l0_1 l0_2)) else (none)) else (none)) = some r := by rw [if_pos rfl] at H; exact H
            clear H
            have H := H1
            clear H1
            by_cases c8 : 0 ≤ x3_1
            · rw [if_pos c8] at H
              have c8b0 : decide (0 ≤ x3_1) = true := decide_eq_true c8
              clear c8
              by_cases c9 : x3_1 < (l0_1.length : Int)
              · rw [if_pos c9] at H
                have c9b0 : decide (x3_1 < (l0_1.length : Int)) = true := decide_eq_true c9
                clear c9
                by_cases c10 : ((rdOf ByteArray.empty l0_1 x3_1).size : Int) > 100
                · rw [if_pos c10] at H
                  have c10b0 : decide (100 < ((rdOf ByteArray.empty l0_1 x3_1).size : Int)) = true := decide_eq_true c10
                  have c10b1 : decide (100 < (rdOf ByteArray.empty l0_1 x3_1).size) = true := decide_eq_true (by omega)
                  clear c10
                  obtain rfl := Option.some.inj H
                  have hcz11_0 : wc.cell? ⟨gb114, 0, none⟩ = some (.int .i64 a0_0) := (blk_cell BK114.out 0).trans rfl
                  have hcz11_1 : wc.cell? ⟨gb114, 1, none⟩ = some (.slice A0_1 l0_1.length c0_1) := (blk_cell BK114.out 1).trans rfl
                  have hcz11_2 : wc.cell? ⟨gb114, 2, none⟩ = some (.slice A0_2 l0_2.length c0_2) := (blk_cell BK114.out 2).trans rfl
                  have hfz11_0 := blk_frozen BK114.out 0
                  have hfz11_1 := blk_frozen BK114.out 1
                  have hfz11_2 := blk_frozen BK114.out 2
                  have p115 : 0 ≤ (x3_1 : Int) := of_decide_eq_true (by first | (with_reducible assumption) | assumption)
                  have q115 : x3_1 < (l0_1.length : Int) := of_decide_eq_true (by first | (with_reducible assumption) | assumption)
                  obtain ⟨ad115, e115, hx115_0⟩ := Kd.at_string HR0_1.out x3_1 p115 q115
                  cases e115
                  replace hx115_0 := (HB.out.cell (World.block_lt_of_cell? w _ hx115_0)).trans hx115_0
                  replace p115 := eq_true p115
                  replace q115 := eq_true q115
                  go_wp2
                  go_ret
                  exact ⟨by first | rfl | (simp [errW_none, errW_some] <;> rfl) | (simp [*, errW_none, errW_some] <;> rfl), by repeat (first | (with_reducible first | exact HB.out | apply below_alloc | apply pw_below_drewN | apply below_drew1 | refine below_set ?_ GE114.out) | exact HB.out)⟩
                · rw [if_neg c10] at H
                  have c10b0 : decide (100 < ((rdOf ByteArray.empty l0_1 x3_1).size : Int)) = false := decide_eq_false c10
                  have c10b1 : decide (100 < (rdOf ByteArray.empty l0_1 x3_1).size) = false := decide_eq_false (by omega)
                  clear c10
                  have H' := Aside0.mk H
                  clear H
                  have hcz12_0 : wc.cell? ⟨gb114, 0, none⟩ = some (.int .i64 a0_0) := (blk_cell BK114.out 0).trans rfl
                  have hcz12_1 : wc.cell? ⟨gb114, 1, none⟩ = some (.slice A0_1 l0_1.length c0_1) := (blk_cell BK114.out 1).trans rfl
                  have hcz12_2 : wc.cell? ⟨gb114, 2, none⟩ = some (.slice A0_2 l0_2.length c0_2) := (blk_cell BK114.out 2).trans rfl
                  have hfz12_0 := blk_frozen BK114.out 0
                  have hfz12_1 := blk_frozen BK114.out 1
                  have hfz12_2 := blk_frozen BK114.out 2
                  have p115 : 0 ≤ (x3_1 : Int) := of_decide_eq_true (by first | (with_reducible assumption) | assumption)
                  have q115 : x3_1 < (l0_1.length : Int) := of_decide_eq_true (by first | (with_reducible assumption) | assumption)
                  obtain ⟨ad115, e115, hx115_0⟩ := Kd.at_string HR0_1.out x3_1 p115 q115
                  cases e115
                  replace hx115_0 := (HB.out.cell (World.block_lt_of_cell? w _ hx115_0)).trans hx115_0
                  replace p115 := eq_true p115
                  replace q115 := eq_true q115
                  go_wp2
                  go_roundg kj2
                  case measure => have := HK1.out; have := HJ2.out; omega
                  case rel => exact ⟨(wrap64 (x3_1 + 1)), (by first | rfl | (simp; done) | (simp [*]; done)), H', ⟨by have := HK1.out; have := HJ2.out; omega⟩, ⟨by (with_reducible repeat (first | refine blk_drewN ?_ _ | refine blk_drew ?_ | refine blk_alloc ?_ _)); exact BK114.out⟩, ⟨by repeat (first | (with_reducible first | exact HB.out | apply below_alloc | apply pw_below_drewN | apply below_drew1 | refine below_set ?_ GE114.out) | exact HB.out)⟩⟩
              · rw [if_neg c9] at H
                exact absurd H (by simp)
            · rw [if_neg c8] at H
              exact absurd H (by simp)
          · replace c7 := Bool.eq_false_iff.mpr c7
            subst c7
            have H1 : (planisphereref02_Few.l1 kj2 0 a0_0 l0_1 l0_2) = some r := by rw [if_neg (show ¬ (false = true) by decide)] at H; exact H
            clear H
            have H := H1
            clear H1
            have H' := Aside0.mk H
            clear H
            go_wp2
            go_loopg [4] kj2 (fun kq v4 w' => ∃ (x4_3 : Int), v4 = .int .i64 x4_3 ∧ Aside0 (planisphereref02_Few.l1 kq x4_3 a0_0 l0_1 l0_2 = some r) ∧ Aside0 (kq ≤ kj2) ∧ Aside0 (w'.heap[gb114]? = some (.cells #[.int .i64 a0_0, (.slice A0_1 l0_1.length c0_1), (.slice A0_2 l0_2.length c0_2)] 35 (0, 0))) ∧ Aside0 (Below w.heap.size w w'))
            case atStart => exact ⟨(0), (by first | rfl | (simp; done) | (simp [*]; done)), H', ⟨Nat.le_refl _⟩, ⟨by (with_reducible repeat (first | refine blk_drewN ?_ _ | refine blk_drew ?_ | refine blk_alloc ?_ _)); exact BK114.out⟩, ⟨by repeat (first | (with_reducible first | exact HB.out | apply below_alloc | apply pw_below_drewN | apply below_drew1 | refine below_set ?_ GE114.out) | exact HB.out)⟩⟩
            case round =>
              clear H'
              try clear c1
              try clear p1
              try clear q1
              try clear hx1
              try clear c2
              try clear p2
              try clear c4
              try clear c4b0
              try clear p6
              try clear c7
              try clear c8
              try clear c8b0
              try clear c9
              try clear c9b0
              try clear c10
              try clear c10b0
              try clear c10b1
              try clear p11
              try clear q11
              try clear hx11
              try clear hcz11_0
              try clear hcz11_1
              try clear hcz11_2
              try clear hcz12_0
              try clear hcz12_1
              try clear hcz12_2
              try clear hcz5_0
              try clear hcz5_1
              try clear hcz5_2
              try clear hcz6_0
              try clear hcz6_1
              try clear hcz6_2
              try clear hfz11_0
              try clear hfz11_1
              try clear hfz11_2
              try clear hfz12_0
              try clear hfz12_1
              try clear hfz12_2
              try clear hfz5_0
              try clear hfz5_1
              try clear hfz5_2
              try clear hfz6_0
              try clear hfz6_1
              try clear hfz6_2
              try clear hx115_0
              try clear p115
              try clear p2
              try clear q115
              obtain ⟨x4_3, rfl, HA, HK3, BK114, HB⟩ := hrel
              cases gk with
              | zero => exact absurd HA.out (by simp [planisphereref02_Few.l1])
              | succ k3 =>
                have H := HA.out
                clear HA
                simp only [planisphereref02_Few.l1] at H
                have HC13 := Aside0.mk H
                clear H
                go_upto_region 7 with (fail)
                go_cut [31] (fun v31 wc => ∃ (kq : Nat) (x31_12 : Bool), v31 = .bool x31_12 ∧ Aside0 (planisphereref02_Few.j3 kq x4_3 x31_12 a0_0 l0_1 l0_2 = some r) ∧ Aside0 (kq ≤ k3) ∧ Aside0 (wc.heap[gb114]? = some (.cells #[.int .i64 a0_0, (.slice A0_1 l0_1.length c0_1), (.slice A0_2 l0_2.length c0_2)] 35 (0, 0))) ∧ Aside0 (Below w.heap.size w wc))
                case first =>
                  have H := HC13.out
                  clear HC13
                  by_cases c14 : x4_3 < (l0_2.length : Int)
                  · rw [if_pos c14] at H
                    have c14b0 : decide (x4_3 < (l0_2.length : Int)) = true := decide_eq_true c14
                    clear c14
                    (first | rw [c14b0] | (simp only [i64_w, i32_w]; rw [c14b0]) | skip)
                    have H' := Aside0.mk H
                    clear H
                    have hcz15_0 : wr.cell? ⟨gb114, 0, none⟩ = some (.int .i64 a0_0) := (blk_cell BK114.out 0).trans rfl
                    have hcz15_1 : wr.cell? ⟨gb114, 1, none⟩ = some (.slice A0_1 l0_1.length c0_1) := (blk_cell BK114.out 1).trans rfl
                    have hcz15_2 : wr.cell? ⟨gb114, 2, none⟩ = some (.slice A0_2 l0_2.length c0_2) := (blk_cell BK114.out 2).trans rfl
                    have hfz15_0 := blk_frozen BK114.out 0
                    have hfz15_1 := blk_frozen BK114.out 1
                    have hfz15_2 := blk_frozen BK114.out 2
                    go_wp2
                    go_meet
                    case rel => exact ⟨_, (decide (x4_3 < 30)), (by first | rfl | (simp; done) | (simp [*]; done)), H', ⟨by have := HK1.out; have := HJ2.out; have := HK3.out; first | omega | exact Nat.le_refl _⟩, ⟨by (with_reducible repeat (first | refine blk_drewN ?_ _ | refine blk_drew ?_ | refine blk_alloc ?_ _)); exact BK114.out⟩, ⟨by repeat (first | (with_reducible first | exact HB.out | apply below_alloc | apply pw_below_drewN | apply below_drew1 | refine below_set ?_ GE114.out) | exact HB.out)⟩⟩
                  · rw [if_neg c14] at H
                    have c14b0 : decide (x4_3 < (l0_2.length : Int)) = false := decide_eq_false c14
                    clear c14
                    (first | rw [c14b0] | (simp only [i64_w, i32_w]; rw [c14b0]) | skip)
                    have H' := Aside0.mk H
                    clear H
                    have hcz16_0 : wr.cell? ⟨gb114, 0, none⟩ = some (.int .i64 a0_0) := (blk_cell BK114.out 0).trans rfl
                    have hcz16_1 : wr.cell? ⟨gb114, 1, none⟩ = some (.slice A0_1 l0_1.length c0_1) := (blk_cell BK114.out 1).trans rfl
                    have hcz16_2 : wr.cell? ⟨gb114, 2, none⟩ = some (.slice A0_2 l0_2.length c0_2) := (blk_cell BK114.out 2).trans rfl
                    have hfz16_0 := blk_frozen BK114.out 0
                    have hfz16_1 := blk_frozen BK114.out 1
                    have hfz16_2 := blk_frozen BK114.out 2
                    go_wp2
                    go_meet
                    case rel => exact ⟨_, (false), (by first | rfl | (simp; done) | (simp [*]; done)), H', ⟨by have := HK1.out; have := HJ2.out; have := HK3.out; first | omega | exact Nat.le_refl _⟩, ⟨by (with_reducible repeat (first | refine blk_drewN ?_ _ | refine blk_drew ?_ | refine blk_alloc ?_ _)); exact BK114.out⟩, ⟨by repeat (first | (with_reducible first | exact HB.out | apply below_alloc | apply pw_below_drewN | apply below_drew1 | refine below_set ?_ GE114.out) | exact HB.out)⟩⟩
                case rest =>
                  clear HC13
                  try clear c1
                  try clear p1
                  try clear q1
                  try clear hx1
                  try clear c2
                  try clear p2
                  try clear c4
                  try clear c4b0
                  try clear p6
                  try clear c7
                  try clear c8
                  try clear c8b0
                  try clear c9
                  try clear c9b0
                  try clear c10
                  try clear c10b0
                  try clear c10b1
                  try clear p11
                  try clear q11
                  try clear hx11
                  try clear c14
                  try clear c14b0
                  try clear hcz11_0
                  try clear hcz11_1
                  try clear hcz11_2
                  try clear hcz12_0
                  try clear hcz12_1
                  try clear hcz12_2
                  try clear hcz15_0
                  try clear hcz15_1
                  try clear hcz15_2
                  try clear hcz16_0
                  try clear hcz16_1
                  try clear hcz16_2
                  try clear hcz5_0
                  try clear hcz5_1
                  try clear hcz5_2
                  try clear hcz6_0
                  try clear hcz6_1
                  try clear hcz6_2
                  try clear hfz11_0
                  try clear hfz11_1
                  try clear hfz11_2
                  try clear hfz12_0
                  try clear hfz12_1
                  try clear hfz12_2
                  try clear hfz15_0
                  try clear hfz15_1
                  try clear hfz15_2
                  try clear hfz16_0
                  try clear hfz16_1
                  try clear hfz16_2
                  try clear hfz5_0
                  try clear hfz5_1
                  try clear hfz5_2
                  try clear hfz6_0
                  try clear hfz6_1
                  try clear hfz6_2
                  try clear hx115_0
                  try clear p1
                  try clear p11
                  try clear p115
                  try clear p2
                  try clear p6
                  try clear q1
                  try clear q11
                  try clear q115
                  obtain ⟨kq, x31_12, rfl, HA, HJ12, BK114, HB⟩ := hcut
                  cases kq with
                  | zero => exact absurd HA.out (by simp [planisphereref02_Few.j3])
                  | succ kj12 =>
                    have H := HA.out
                    clear HA
                    simp only [planisphereref02_Few.j3] at H
                    by_cases c17 : x31_12 = true
                    · subst c17
                      have H1 : (if 0 ≤ x4_3 then (if x4_3 < (l0_2.length : Int) then (if ((rdOf ByteArray.empty l0_2 x4_3).size : Int) > 100 then (some false) else (planisphereref02_Few.l1 kj12 (wrap64 (x4_3 + 1)) a0_0 l0_1 l0_2)) else (none)) else (none)) = some r := by rw [if_pos rfl] at H; exact H
                      clear H
                      have H := H1
                      clear H1
                      by_cases c18 : 0 ≤ x4_3
                      · rw [if_pos c18] at H
                        have c18b0 : decide (0 ≤ x4_3) = true := decide_eq_true c18
                        clear c18
                        by_cases c19 : x4_3 < (l0_2.length : Int)
                        · rw [if_pos c19] at H
                          have c19b0 : decide (x4_3 < (l0_2.length : Int)) = true := decide_eq_true c19
                          clear c19
                          by_cases c20 : ((rdOf ByteArray.empty l0_2 x4_3).size : Int) > 100
                          · rw [if_pos c20] at H
                            have c20b0 : decide (100 < ((rdOf ByteArray.empty l0_2 x4_3).size : Int)) = true := decide_eq_true c20
                            have c20b1 : decide (100 < (rdOf ByteArray.empty l0_2 x4_3).size) = true := decide_eq_true (by omega)
                            clear c20
                            obtain rfl := Option.some.inj H
                            have hcz21_0 : wc.cell? ⟨gb114, 0, none⟩ = some (.int .i64 a0_0) := (blk_cell BK114.out 0).trans rfl
                            have hcz21_1 : wc.cell? ⟨gb114, 1, none⟩ = some (.slice A0_1 l0_1.length c0_1) := (blk_cell BK114.out 1).trans rfl
                            have hcz21_2 : wc.cell? ⟨gb114, 2, none⟩ = some (.slice A0_2 l0_2.length c0_2) := (blk_cell BK114.out 2).trans rfl
                            have hfz21_0 := blk_frozen BK114.out 0
                            have hfz21_1 := blk_frozen BK114.out 1
                            have hfz21_2 := blk_frozen BK114.out 2
                            have p116 : 0 ≤ (x4_3 : Int) := of_decide_eq_true (by first | (with_reducible assumption) | assumption)
                            have q116 : x4_3 < (l0_2.length : Int) := of_decide_eq_true (by first | (with_reducible assumption) | assumption)
                            obtain ⟨ad116, e116, hx116_0⟩ := Kd.at_string HR0_2.out x4_3 p116 q116
                            cases e116
                            replace hx116_0 := (HB.out.cell (World.block_lt_of_cell? w _ hx116_0)).trans hx116_0
                            replace p116 := eq_true p116
                            replace q116 := eq_true q116
                            go_wp2
                            go_ret
                            exact ⟨by first | rfl | (simp [errW_none, errW_some] <;> rfl) | (simp [*, errW_none, errW_some] <;> rfl), by repeat (first | (with_reducible first | exact HB.out | apply below_alloc | apply pw_below_drewN | apply below_drew1 | refine below_set ?_ GE114.out) | exact HB.out)⟩
                          · rw [if_neg c20] at H
                            have c20b0 : decide (100 < ((rdOf ByteArray.empty l0_2 x4_3).size : Int)) = false := decide_eq_false c20
                            have c20b1 : decide (100 < (rdOf ByteArray.empty l0_2 x4_3).size) = false := decide_eq_false (by omega)
                            clear c20
                            have H' := Aside0.mk H
                            clear H
                            have hcz22_0 : wc.cell? ⟨gb114, 0, none⟩ = some (.int .i64 a0_0) := (blk_cell BK114.out 0).trans rfl
                            have hcz22_1 : wc.cell? ⟨gb114, 1, none⟩ = some (.slice A0_1 l0_1.length c0_1) := (blk_cell BK114.out 1).trans rfl
                            have hcz22_2 : wc.cell? ⟨gb114, 2, none⟩ = some (.slice A0_2 l0_2.length c0_2) := (blk_cell BK114.out 2).trans rfl
                            have hfz22_0 := blk_frozen BK114.out 0
                            have hfz22_1 := blk_frozen BK114.out 1
                            have hfz22_2 := blk_frozen BK114.out 2
                            have p116 : 0 ≤ (x4_3 : Int) := of_decide_eq_true (by first | (with_reducible assumption) | assumption)
                            have q116 : x4_3 < (l0_2.length : Int) := of_decide_eq_true (by first | (with_reducible assumption) | assumption)
                            obtain ⟨ad116, e116, hx116_0⟩ := Kd.at_string HR0_2.out x4_3 p116 q116
                            cases e116
                            replace hx116_0 := (HB.out.cell (World.block_lt_of_cell? w _ hx116_0)).trans hx116_0
                            replace p116 := eq_true p116
                            replace q116 := eq_true q116
                            go_wp2
                            go_roundg kj12
                            case measure => have := HK1.out; have := HJ2.out; have := HK3.out; have := HJ12.out; omega
                            case rel => exact ⟨(wrap64 (x4_3 + 1)), (by first | rfl | (simp; done) | (simp [*]; done)), H', ⟨by have := HK1.out; have := HJ2.out; have := HK3.out; have := HJ12.out; omega⟩, ⟨by (with_reducible repeat (first | refine blk_drewN ?_ _ | refine blk_drew ?_ | refine blk_alloc ?_ _)); exact BK114.out⟩, ⟨by repeat (first | (with_reducible first | exact HB.out | apply below_alloc | apply pw_below_drewN | apply below_drew1 | refine below_set ?_ GE114.out) | exact HB.out)⟩⟩
                        · rw [if_neg c19] at H
                          exact absurd H (by simp)
                      · rw [if_neg c18] at H
                        exact absurd H (by simp)
                    · replace c17 := Bool.eq_false_iff.mpr c17
                      subst c17
                      have H1 : (if (l0_1.length : Int) ≤ 30 then (some (decide ((l0_2.length : Int) ≤ 30))) else (some false)) = some r := by rw [if_neg (show ¬ (false = true) by decide)] at H; exact H
                      clear H
                      have H := H1
                      clear H1
                      by_cases c23 : (l0_1.length : Int) ≤ 30
                      · rw [if_pos c23] at H
                        have c23b0 : decide ((l0_1.length : Int) ≤ 30) = true := decide_eq_true c23
                        have c23b1 : decide (l0_1.length ≤ 30) = true := decide_eq_true (by omega)
                        clear c23
                        obtain rfl := Option.some.inj H
                        have hcz24_0 : wc.cell? ⟨gb114, 0, none⟩ = some (.int .i64 a0_0) := (blk_cell BK114.out 0).trans rfl
                        have hcz24_1 : wc.cell? ⟨gb114, 1, none⟩ = some (.slice A0_1 l0_1.length c0_1) := (blk_cell BK114.out 1).trans rfl
                        have hcz24_2 : wc.cell? ⟨gb114, 2, none⟩ = some (.slice A0_2 l0_2.length c0_2) := (blk_cell BK114.out 2).trans rfl
                        have hfz24_0 := blk_frozen BK114.out 0
                        have hfz24_1 := blk_frozen BK114.out 1
                        have hfz24_2 := blk_frozen BK114.out 2
                        go_wp2
                        go_ret
                        exact ⟨by first | rfl | (simp [errW_none, errW_some] <;> rfl) | (simp [*, errW_none, errW_some] <;> rfl), by repeat (first | (with_reducible first | exact HB.out | apply below_alloc | apply pw_below_drewN | apply below_drew1 | refine below_set ?_ GE114.out) | exact HB.out)⟩
                      · rw [if_neg c23] at H
                        have c23b0 : decide ((l0_1.length : Int) ≤ 30) = false := decide_eq_false c23
                        have c23b1 : decide (l0_1.length ≤ 30) = false := decide_eq_false (by omega)
                        clear c23
                        obtain rfl := Option.some.inj H
                        have hcz25_0 : wc.cell? ⟨gb114, 0, none⟩ = some (.int .i64 a0_0) := (blk_cell BK114.out 0).trans rfl
                        have hcz25_1 : wc.cell? ⟨gb114, 1, none⟩ = some (.slice A0_1 l0_1.length c0_1) := (blk_cell BK114.out 1).trans rfl
                        have hcz25_2 : wc.cell? ⟨gb114, 2, none⟩ = some (.slice A0_2 l0_2.length c0_2) := (blk_cell BK114.out 2).trans rfl
                        have hfz25_0 := blk_frozen BK114.out 0
                        have hfz25_1 := blk_frozen BK114.out 1
                        have hfz25_2 := blk_frozen BK114.out 2
                        go_wp2
                        go_ret
                        exact ⟨by first | rfl | (simp [errW_none, errW_some] <;> rfl) | (simp [*, errW_none, errW_some] <;> rfl), by repeat (first | (with_reducible first | exact HB.out | apply below_alloc | apply pw_below_drewN | apply below_drew1 | refine below_set ?_ GE114.out) | exact HB.out)⟩
end Go.Proofs.YteleheamnighkaaDoor.PCd
end
section
set_option linter.unusedVariables false
set_option linter.unusedSimpArgs false
namespace Go.Proofs.YteleheamnighkaaDoor
open Go.RowKit Go.DoorKit Go.Proofs.YteleheamnighkaaDoorW.PrintWords
def okFew (l : List ByteArray) (j : Nat) : Prop := ∀ i, i < j → i < l.length → (l.getD i ByteArray.empty).size ≤ 100
def fewS (s p : List ByteArray) : Prop := s.length ≤ 30 ∧ p.length ≤ 30 ∧ (∀ x ∈ s, x.size ≤ 100) ∧ ∀ x ∈ p, x.size ≤ 100
instance (s p : List ByteArray) : Decidable (fewS s p) := inferInstanceAs (Decidable (s.length ≤ 30 ∧ p.length ≤ 30 ∧ (∀ x ∈ s, x.size ≤ 100) ∧ ∀ x ∈ p, x.size ≤ 100))
theorem okFew_succ {l : List ByteArray} {j : Nat} (h : okFew l j) (hj : (l.getD j ByteArray.empty).size ≤ 100) : okFew l (j + 1) := by
  intro i hi hl
  by_cases e : i = j
  · rw [e]; exact hj
  · exact h i (by omega) hl
theorem okFew_all {l : List ByteArray} {j : Nat} (h : okFew l j) (hl : l.length ≤ j) : ∀ x ∈ l, x.size ≤ 100 := by
  intro x hx
  obtain ⟨i, hi, rfl⟩ := List.getElem_of_mem hx
  have := h i (by omega) hi
  rwa [List.getD_eq_getElem?_getD, List.getElem?_eq_getElem hi, Option.getD_some] at this
theorem few_not {l : List ByteArray} {j : Nat} (h : j < l.length) (hj : ¬ (l.getD j ByteArray.empty).size ≤ 100) : ¬ ∀ x ∈ l, x.size ≤ 100 := fun k => hj (k _ (getD_mem h))
theorem efin (n : Int) (s p : List ByteArray) (hs : okFew s 30) (hp : okFew p 30) : (if (s.length : Int) ≤ 30 then (some (decide ((p.length : Int) ≤ 30))) else (some false)) = some (decide (fewS s p)) := by
  by_cases h1 : s.length ≤ 30
  · rw [if_pos (by omega)]
    by_cases h2 : p.length ≤ 30
    · rw [decide_eq_true (show (p.length : Int) ≤ 30 by omega), decide_eq_true (show fewS s p from ⟨h1, h2, okFew_all hs h1, okFew_all hp h2⟩)]
    · rw [decide_eq_false (show ¬ (p.length : Int) ≤ 30 by omega), decide_eq_false (fun k : fewS s p => h2 k.2.1)]
  · rw [if_neg (by omega), decide_eq_false (fun k : fewS s p => h1 k.1)]
theorem efew1 (n : Int) (s p : List ByteArray) (hs : okFew s 30) : ∀ (d j : Nat), j + d = 30 → j ≤ p.length → okFew p j →
    Ev (fun k => PCd.planisphereref02_Few.l1 k j n s p) (decide (fewS s p))
  | 0, j, hj, hl, hok => by
    obtain rfl : j = 30 := by omega
    refine Ev.step (f := fun k => PCd.planisphereref02_Few.j3 k ((30 : Nat) : Int) false n s p) (fun k => ?_) (Ev.step (fun k => ?_) (Ev.now _))
    · rw [PCd.planisphereref02_Few.l1]
      by_cases h : ((30 : Nat) : Int) < (p.length : Int)
      · rw [if_pos h]; rfl
      · rw [if_neg h]
    · rw [PCd.planisphereref02_Few.j3, if_neg Bool.false_ne_true]
      exact efin n s p hs hok
  | d + 1, j, hj, hl, hok => by
    by_cases h : j < p.length
    · by_cases hz : (p.getD j ByteArray.empty).size ≤ 100
      · have ih := efew1 n s p hs d (j + 1) (by omega) (by omega) (okFew_succ hok hz)
        refine Ev.step (f := fun k => PCd.planisphereref02_Few.j3 k j true n s p) (fun k => ?_) (Ev.step (fun k => ?_) ih)
        · rw [PCd.planisphereref02_Few.l1, if_pos (by omega), decide_eq_true (by omega)]
        · rw [PCd.planisphereref02_Few.j3, if_pos rfl, if_pos (by omega), if_pos (by omega)]
          unfold rdOf
          rw [Int.toNat_natCast, if_neg (by omega), wrap_succ j (by omega)]
      · rw [decide_eq_false (fun k => few_not h hz k.2.2.2)]
        refine Ev.step (f := fun k => PCd.planisphereref02_Few.j3 k j true n s p) (fun k => ?_) (Ev.step (fun k => ?_) (Ev.now _))
        · rw [PCd.planisphereref02_Few.l1, if_pos (by omega), decide_eq_true (by omega)]
        · rw [PCd.planisphereref02_Few.j3, if_pos rfl, if_pos (by omega), if_pos (by omega)]
          unfold rdOf
          rw [Int.toNat_natCast, if_pos (by omega)]
    · have hle : p.length = j := by omega
      refine Ev.step (f := fun k => PCd.planisphereref02_Few.j3 k j false n s p) (fun k => ?_) (Ev.step (fun k => ?_) (Ev.now _))
      · rw [PCd.planisphereref02_Few.l1, if_neg (by omega)]
      · rw [PCd.planisphereref02_Few.j3, if_neg Bool.false_ne_true]
        exact efin n s p hs (fun i hi hil => hok i (by omega) hil)
theorem efew0 (n : Int) (s p : List ByteArray) : ∀ (d j : Nat), j + d = 30 → j ≤ s.length → okFew s j → Ev (fun k => PCd.planisphereref02_Few.l0 k j n s p) (decide (fewS s p))
  | 0, j, hj, hl, hok => by
    obtain rfl : j = 30 := by omega
    have h1 := efew1 n s p hok 30 0 rfl (Nat.zero_le _) (fun i hi => absurd hi (by omega))
    refine Ev.step (f := fun k => PCd.planisphereref02_Few.j1 k ((30 : Nat) : Int) false n s p) (fun k => ?_) (Ev.step (fun k => ?_) h1)
    · rw [PCd.planisphereref02_Few.l0]
      by_cases h : ((30 : Nat) : Int) < (s.length : Int)
      · rw [if_pos h]; rfl
      · rw [if_neg h]
    · rw [PCd.planisphereref02_Few.j1, if_neg Bool.false_ne_true]; rfl
  | d + 1, j, hj, hl, hok => by
    by_cases h : j < s.length
    · by_cases hz : (s.getD j ByteArray.empty).size ≤ 100
      · have ih := efew0 n s p d (j + 1) (by omega) (by omega) (okFew_succ hok hz)
        refine Ev.step (f := fun k => PCd.planisphereref02_Few.j1 k j true n s p) (fun k => ?_) (Ev.step (fun k => ?_) ih)
        · rw [PCd.planisphereref02_Few.l0, if_pos (by omega), decide_eq_true (by omega)]
        · rw [PCd.planisphereref02_Few.j1, if_pos rfl, if_pos (by omega), if_pos (by omega)]
          unfold rdOf
          rw [Int.toNat_natCast, if_neg (by omega), wrap_succ j (by omega)]
      · rw [decide_eq_false (fun k => few_not h hz k.2.2.1)]
        refine Ev.step (f := fun k => PCd.planisphereref02_Few.j1 k j true n s p) (fun k => ?_) (Ev.step (fun k => ?_) (Ev.now _))
        · rw [PCd.planisphereref02_Few.l0, if_pos (by omega), decide_eq_true (by omega)]
        · rw [PCd.planisphereref02_Few.j1, if_pos rfl, if_pos (by omega), if_pos (by omega)]
          unfold rdOf
          rw [Int.toNat_natCast, if_pos (by omega)]
    · have hle : s.length = j := by omega
      have h1 := efew1 n s p (fun i hi hil => hok i (by omega) hil) 30 0 rfl (Nat.zero_le _) (fun i hi => absurd hi (by omega))
      refine Ev.step (f := fun k => PCd.planisphereref02_Few.j1 k j false n s p) (fun k => ?_) (Ev.step (fun k => ?_) h1)
      · rw [PCd.planisphereref02_Few.l0, if_neg (by omega)]
      · rw [PCd.planisphereref02_Few.j1, if_neg Bool.false_ne_true]; rfl
def planisphereref02_Few.f (a0_0 : Int) (l0_1 l0_2 : List ByteArray) : Option Bool := some (decide (fewS l0_1 l0_2))
theorem planisphereref02_Few.calls (a0_0 : Int) (A0_1 : Option Addr) (c0_1 : Nat) (l0_1 : List ByteArray) (A0_2 : Option Addr) (c0_2 : Nat) (l0_2 : List ByteArray) (r : Bool) (w : World) (hr0_1 : Kd.C Kd.string w A0_1 l0_1.length l0_1) (hc0_1 : l0_1.length ≤ c0_1) (hr0_2 : Kd.C Kd.string w A0_2 l0_2.length l0_2) (hc0_2 : l0_2.length ≤ c0_2) (h : planisphereref02_Few.f a0_0 l0_1 l0_2 = some r) :
    Calls Tryd.prog 27 #[.agg #[.int .i64 a0_0, .slice A0_1 l0_1.length c0_1, .slice A0_2 l0_2.length c0_2]] w fun e w' => e = .returned (.bool r) ∧ Below w.heap.size w w' := by
  obtain ⟨k, hk⟩ := (efew0 a0_0 l0_1 l0_2 30 0 rfl (Nat.zero_le _) (fun i hi => absurd hi (by omega))).rounds
  have hr := Option.some.inj h
  rw [hr] at hk
  exact PCd.planisphereref02_Few.calls k a0_0 A0_1 c0_1 l0_1 A0_2 c0_2 l0_2 r w hr0_1 hc0_1 hr0_2 hc0_2 hk
end Go.Proofs.YteleheamnighkaaDoor
end
section
set_option linter.unusedVariables false
set_option linter.unusedSimpArgs false
namespace Go.Proofs.YteleheamnighkaaDoor
open Go.RowKit Go.DoorKit Go.Proofs.YteleheamnighkaaDoorW.PrintWords
theorem toList_eq {a b : ByteArray} : a.toList = b.toList ↔ a = b := by
  constructor
  · intro h
    rw [ByteArray.toList_eq, ByteArray.toList_eq] at h
    cases a; cases b
    rw [ByteArray.mk.injEq]
    exact Array.ext' h
  · intro h; rw [h]
end Go.Proofs.YteleheamnighkaaDoor
end
section
namespace Go.Proofs.YteleheamnighkaaDoor.PCf
open Go.RowKit Go.Proofs.YteleheamnighkaaDoorW.PrintWords Go.Proofs.YteleheamnighkaaDoorW.PrintLast Go.Proofs.YteleheamnighkaaDoorW.PrintMore
attribute [local go_sem] max2_int min2_int max_two min_two max_three min_three max_four min_four   -- for this text's walks alone
set_option linter.unusedVariables false
set_option linter.unusedSimpArgs false
def errW : Option Int → Value
  | none => .nilIface
  | some c => .iface 0 (.int .i64 c)
theorem errW_none : errW none = .nilIface := rfl
theorem errW_some (c : Int) : errW (some c) = .iface 0 (.int .i64 c) := rfl
theorem info9 : (Tryd.prog.info? 9).map (fun i => (i.zero, i.size, i.bytes)) = some (some (.string ⟨#[]⟩), 1, 16) := by kernel_rfl
end Go.Proofs.YteleheamnighkaaDoor.PCf
end
section
set_option linter.unusedVariables false
set_option linter.unusedSimpArgs false
namespace Go.Proofs.YteleheamnighkaaDoor
open Go.RowKit Go.DoorKit Go.Proofs.YteleheamnighkaaDoorW.PrintWords
theorem isD_sum (t : Dig.Txt) : Dig.isD (Dig.sum t) = true := by
  unfold Dig.isD
  rw [Dig.sum_len, List.all_eq_true.2 (Pure.sum_hex t)]; rfl
theorem isD_chain {t : Dig.Txt} (h : Dig.isD t = true) : ∀ n, Dig.isD (Dig.chain t n) = true
  | 0 => h
  | n + 1 => isD_sum _
theorem isD_tree (s : Dig.Txt) : ∀ j m, Dig.isD (Dig.tree s j m) = true
  | 0, _ => isD_sum _
  | _ + 1, _ => isD_sum _
theorem sig_odd (s : Dig.Txt) (i : Nat) (m : Dig.Txt) : oddB (sigL s i m) = false := by
  unfold oddB
  rw [List.any_eq_false]
  intro t ht
  simp only [sigL, List.mem_map] at ht
  obtain ⟨j, _, rfl⟩ := ht
  unfold sigAt
  rw [tx_ofT, isD_chain (t := Dig.start0 s i j) (isD_sum _)]; decide
theorem path_odd (s : Dig.Txt) (i h : Nat) : oddB (pathL s i h) = false := by
  unfold oddB
  rw [List.any_eq_false]
  intro t ht
  simp only [pathL, List.mem_map] at ht
  obtain ⟨j, _, rfl⟩ := ht
  rw [tx_ofT, isD_tree]; decide
theorem sig_get (s : Dig.Txt) (i : Nat) (m : Dig.Txt) (j : Nat) (h : j < 18) : (sigL s i m).getD j ByteArray.empty = sigAt s i m j := by
  rw [← sigTo_all]
  unfold sigTo
  rw [List.getD_eq_getElem?_getD, List.getElem?_map, List.getElem?_range h]; rfl
theorem ends_sig (s : Dig.Txt) (i : Nat) (m : Dig.Txt) : endsL (sigL s i m) m = endsB s i 18 := by
  rw [← endsTo_all]
  unfold endsTo endsB
  apply List.map_congr_left
  intro j hj
  have hj := List.mem_range.1 hj
  unfold endAt
  rw [sig_get s i m j hj]
  unfold sigAt
  rw [tx_ofT, Dig.chain_add]
  have := dAt_le m j
  rw [show dAt m j + (15 - dAt m j) = 15 by omega]
theorem step_tree (s : Dig.Txt) (n q : Nat) : Dig.sum (Dig.stepT (Dig.tree s n q) (Dig.tree s n (Dig.sib q)) q) = Dig.tree s (n + 1) (q / 2) := by
  unfold Dig.stepT Dig.sib
  by_cases h : q % 2 = 1
  · rw [if_pos h, if_neg (by omega), Dig.tree, show 2 * (q / 2) + 1 = q by omega, show 2 * (q / 2) = q - 1 by omega]
  · rw [if_neg h, if_pos (by omega), Dig.tree, show 2 * (q / 2) = q by omega]
theorem climb_path (s : Dig.Txt) (i : Nat) : ∀ n, Dig.climb (Dig.tree s 0 i) i ((pathL s i n).map tx) = Dig.tree s n (i / 2 ^ n)
  | 0 => by
    have : pathL s i 0 = [] := rfl
    rw [this, List.map_nil, Dig.climb, Nat.pow_zero, Nat.div_one]
  | n + 1 => by
    rw [pathL_succ, List.map_append, List.map_cons, List.map_nil, Dig.climb_snoc, climb_path s i n, List.length_map, pathL_len, tx_ofT, step_tree, Nat.pow_succ, ← Nat.div_div_eq_div_mul]
theorem climb_sig (s : Dig.Txt) (h i : Nat) (msg : ByteArray) (hi : i < 2 ^ h) : Dig.climb (Dig.lst ((endsL (sigL s i (tx msg)) (tx msg)).map tx)) i ((pathL s i h).map tx) = Dig.tree s h 0 := by
  rw [ends_sig, endsB_tx]
  have := climb_path s i h
  rw [Nat.div_eq_of_lt hi] at this
  exact this
theorem ver_sig (s : Dig.Txt) (h i : Nat) (msg : ByteArray) (hh : h ≤ 8) (hi : i < 2 ^ h) (r : ByteArray) : verR r msg i (sigL s i (tx msg)) (pathL s i h) = decide (r = ofT (Dig.tree s h 0)) := by
  unfold verR
  have hp : (pathL s i h).length = h := pathL_len s i h
  rw [if_pos ⟨sigL_len _ _ _, by omega, sig_odd _ _ _, path_odd _ _ _, by omega, by rw [hp]; exact_mod_cast hi⟩, Int.toNat_natCast]
  unfold climbB
  rw [climb_sig s h i msg hi]
  by_cases hr : r = ofT (Dig.tree s h 0)
  · rw [hr, decide_eq_true rfl]; exact beq_self_eq_true _
  · rw [decide_eq_false hr]
    exact beq_eq_false_iff_ne.mpr (fun e => hr (toList_eq.1 e).symm)
theorem sigL_big (s : Dig.Txt) (i : Nat) (m : Dig.Txt) : ∀ x ∈ sigL s i m, x.size = 16 := oddB_size (sig_odd s i m)
theorem pathL_big (s : Dig.Txt) (i h : Nat) : ∀ x ∈ pathL s i h, x.size = 16 := oddB_size (path_odd s i h)
theorem verIn_small {msg : ByteArray} {l1 l2 : List ByteArray} (hm : msg.size ≤ 300) (h1 : ∀ x ∈ l1, x.size ≤ 1000) (h2 : ∀ x ∈ l2, x.size ≤ 1000) (n1 : l1.length ≤ 100) (n2 : l2.length ≤ 100) : verIn msg l1 l2 :=
  ⟨Nat.le_trans hm (by decide), fun s hs => Nat.le_trans (h1 s hs) (by decide), fun s hs => Nat.le_trans (h2 s hs) (by decide), by omega, by omega⟩
end Go.Proofs.YteleheamnighkaaDoor
end
section
set_option linter.unusedVariables false
set_option linter.unusedSimpArgs false
namespace Go.Proofs.YteleheamnighkaaDoor
open Go.RowKit Go.DoorKit Go.Proofs.YteleheamnighkaaDoorW.PrintWords
def sec : ByteArray := ⟨#[115, 101, 99, 114, 101, 116]⟩
def mes : ByteArray := ⟨#[109, 101, 115, 115, 97, 103, 101]⟩
theorem hd_p2 (w : World) (hG : Glob w) : Calls Tryd.prog 28 #[.string ⟨#[115, 101, 99, 114, 101, 116]⟩, .int .i64 2] w fun e w' => e = .returned (.tuple #[.string (ofT (Dig.tree (tx sec) 2 0)), .int .i64 0]) ∧ Below w.heap.size w w' :=
  seal_Public.calls sec 2 _ _ w (if_pos (by decide)) hG
theorem hd_p9 (w : World) (hG : Glob w) : Calls Tryd.prog 28 #[.string ⟨#[115, 101, 99, 114, 101, 116]⟩, .int .i64 9] w fun e w' => e = .returned (.tuple #[.string ⟨#[]⟩, .int .i64 1]) ∧ Below w.heap.size w w' :=
  seal_Public.calls sec 9 _ _ w (if_pos (by decide)) hG
def SignOut (w : World) (i : Int) (s p : List ByteArray) (er : Int) (e : Ending) (w' : World) : Prop :=
  ∃ (A1 A2 : Option Addr) (c1 c2 : Nat), e = .returned (.tuple #[.agg #[.int .i64 i, .slice A1 s.length c1, .slice A2 p.length c2], .int .i64 er]) ∧ Kd.C Kd.string w' A1 s.length s ∧ s.length ≤ c1 ∧ Kd.C Kd.string w' A2 p.length p ∧ p.length ≤ c2 ∧ Below w.heap.size w w' ∧ (0 < s.length → ∃ g, A1 = some ⟨g, 0, none⟩)
theorem sign_out {w : World} {f : FuncId} {args : Array Value} {i : Int} {s p : List ByteArray} {er : Int}
    (h : Calls Tryd.prog f args w fun e w' => ∃ v1_ v2_ : Value, e = .returned (.tuple #[.agg #[.int .i64 i, v1_, v2_], .int .i64 er]) ∧ Kd.R Kd.string 9 w' w.heap.size (fun k_ => some k_ ≠ (v2_ : Value).ownBlock) v1_ s ∧ Kd.R Kd.string 9 w' w.heap.size (fun k_ => some k_ ≠ (v1_ : Value).ownBlock) v2_ p ∧ Below w.heap.size w w') :
    Calls Tryd.prog f args w fun e w' => SignOut w i s p er e w' := by
  refine h.mono ?_
  rintro e w' ⟨v1, v2, rfl, h1, h2, hb⟩
  obtain ⟨A1, c1, rfl, hc1, hC1⟩ := Kd.R_reads h1
  obtain ⟨A2, c2, rfl, hc2, hC2⟩ := Kd.R_reads h2
  refine ⟨A1, A2, c1, c2, rfl, hC1, hc1, hC2, hc2, hb, fun hp => ?_⟩
  obtain ⟨g, cap, he, _⟩ := Kd.R_form h1 hp
  injection he with e1 e2 e3
  exact ⟨g, e1⟩
theorem hd_s3 (w : World) (hG : Glob w) : Calls Tryd.prog 30 #[.string ⟨#[115, 101, 99, 114, 101, 116]⟩, .int .i64 2, .int .i64 3, .string ⟨#[109, 101, 115, 115, 97, 103, 101]⟩] w fun e w' => SignOut w 3 (sigL (tx sec) 3 (tx mes)) (pathL (tx sec) 3 2) 0 e w' :=
  sign_out (seal_Sign.calls sec 2 3 mes _ _ _ _ w (if_pos (by decide)) hG)
theorem hd_s4 (w : World) (hG : Glob w) : Calls Tryd.prog 30 #[.string ⟨#[115, 101, 99, 114, 101, 116]⟩, .int .i64 2, .int .i64 4, .string ⟨#[109, 101, 115, 115, 97, 103, 101]⟩] w fun e w' => SignOut w 0 [] [] 1 e w' :=
  sign_out (seal_Sign.calls sec 2 4 mes _ _ _ _ w (if_pos (by decide)) hG)
theorem hd_v1 (w : World) (hG : Glob w) (A1 A2 : Option Addr) (c1 c2 : Nat) (s p : List ByteArray) (hs : s = sigL (tx sec) 3 (tx mes)) (hp : p = pathL (tx sec) 3 2) (h1 : Kd.C Kd.string w A1 s.length s) (h2 : s.length ≤ c1) (h3 : Kd.C Kd.string w A2 p.length p) (h4 : p.length ≤ c2) :
    Calls Tryd.prog 33 #[.string (ofT (Dig.tree (tx sec) 2 0)), .string ⟨#[109, 101, 115, 115, 97, 103, 101]⟩, .agg #[.int .i64 3, .slice A1 s.length c1, .slice A2 p.length c2]] w fun e w' => e = .returned (.bool true) ∧ Below w.heap.size w w' := by
  subst hs hp
  refine seal_Verify.calls _ mes 3 A1 c1 _ A2 c2 _ true w h1 h2 h3 h4 ?_ hG
  unfold seal_Verify.f
  rw [if_pos (verIn_small (by decide) (fun x hx => by rw [sigL_big _ _ _ x hx]; decide) (fun x hx => by rw [pathL_big _ _ _ x hx]; decide) (by rw [sigL_len]; decide) (by rw [pathL_len]; decide))]
  have := ver_sig (tx sec) 2 3 mes (by decide) (by decide) (ofT (Dig.tree (tx sec) 2 0))
  rw [decide_eq_true rfl] at this
  exact congrArg some this
theorem hd_v4 (w : World) (hG : Glob w) (A1 A2 : Option Addr) (c1 c2 : Nat) (s p : List ByteArray) (hs : s = sigL (tx sec) 3 (tx mes)) (hp : p = pathL (tx sec) 3 2) (h1 : Kd.C Kd.string w A1 s.length s) (h2 : s.length ≤ c1) (h3 : Kd.C Kd.string w A2 p.length p) (h4 : p.length ≤ c2) :
    Calls Tryd.prog 33 #[.string ⟨#[]⟩, .string ⟨#[109, 101, 115, 115, 97, 103, 101]⟩, .agg #[.int .i64 3, .slice A1 s.length c1, .slice A2 p.length c2]] w fun e w' => e = .returned (.bool false) ∧ Below w.heap.size w w' := by
  subst hs hp
  refine seal_Verify.calls _ mes 3 A1 c1 _ A2 c2 _ false w h1 h2 h3 h4 ?_ hG
  unfold seal_Verify.f
  rw [if_pos (verIn_small (by decide) (fun x hx => by rw [sigL_big _ _ _ x hx]; decide) (fun x hx => by rw [pathL_big _ _ _ x hx]; decide) (by rw [sigL_len]; decide) (by rw [pathL_len]; decide))]
  have := ver_sig (tx sec) 2 3 mes (by decide) (by decide) ⟨#[]⟩
  rw [decide_eq_false] at this
  · exact congrArg some this
  · intro e
    have h5 := congrArg ByteArray.size e
    rw [size_ofT, tree_len] at h5
    exact absurd h5 (by decide)
theorem ver_no {a0 msg : ByteArray} {i : Int} {l1 l2 : List ByteArray} (h : ¬ verOk i l1 l2) : verR a0 msg i l1 l2 = false := if_neg h
theorem hd_vn (w : World) (hG : Glob w) (r : ByteArray) (A1 A2 : Option Addr) (c1 c2 : Nat) (s p : List ByteArray) (hn : ¬ verOk 3 s p) (hs : ∀ x ∈ s, x.size = 16) (hp : ∀ x ∈ p, x.size = 16) (n1 : s.length ≤ 100) (n2 : p.length ≤ 100) (h1 : Kd.C Kd.string w A1 s.length s) (h2 : s.length ≤ c1) (h3 : Kd.C Kd.string w A2 p.length p) (h4 : p.length ≤ c2) :
    Calls Tryd.prog 33 #[.string r, .string ⟨#[109, 101, 115, 115, 97, 103, 101]⟩, .agg #[.int .i64 3, .slice A1 s.length c1, .slice A2 p.length c2]] w fun e w' => e = .returned (.bool false) ∧ Below w.heap.size w w' := by
  refine seal_Verify.calls _ mes 3 A1 c1 _ A2 c2 _ false w h1 h2 h3 h4 ?_ hG
  unfold seal_Verify.f
  rw [if_pos (verIn_small (by decide) (fun x hx => by rw [hs x hx]; decide) (fun x hx => by rw [hp x hx]; decide) n1 n2), ver_no hn]
set_option maxRecDepth 100000 in
set_option maxHeartbeats 4000000 in
theorem planispherelaw02_head_calls (w : World) (hG : Glob w) : Calls Tryd.prog 25 #[] w fun e w' => e = .returned (.bool true) ∧ Below w.heap.size w w' := by
  obtain ⟨s, hs⟩ : ∃ s, s = sigL (tx sec) 3 (tx mes) := ⟨_, rfl⟩
  obtain ⟨p, hp⟩ : ∃ p, p = pathL (tx sec) 3 2 := ⟨_, rfl⟩
  have hsl : s.length = 18 := by rw [hs, sigL_len]
  have hpl : p.length = 2 := by rw [hp, pathL_len]
  obtain ⟨R, hR⟩ : ∃ R, R = ofT (Dig.tree (tx sec) 2 0) := ⟨_, rfl⟩
  have P2 := Lib.hid (fun w hG => hd_p2 w hG)
  have S3 := Lib.hid (fun w hG => hd_s3 w hG)
  rw [← hR] at P2
  rw [← hs, ← hp] at S3
  have HH := Lib.hid (And.intro hs (And.intro hp (And.intro hsl (And.intro hpl hR))))
  clear hs hp hsl hpl hR
  go_enter Tryd.func25, Tryd.ntmps25
  go_upto_region 4 with (first | (go_at_call 28; ((with_reducible refine (P2.out w hG).mono ?_); rintro e w1 ⟨rfl, b1⟩)) | (go_at_call 28; ((with_reducible refine (hd_p9 w1 (Glob.below hG b1)).mono ?_); rintro e w2 ⟨rfl, b2⟩; have B2 := b1.trans (b2.mono b1.size); clear b1 b2)) | (go_at_call 30; ((with_reducible refine (S3.out w2 (Glob.below hG B2)).mono ?_); rintro e w3 ⟨A1, A2, c1, c2, rfl, hC1, hc1, hC2, hc2, b3, hA1⟩; obtain ⟨g1, rfl⟩ := hA1 (by have := HH.out.2.2.1; omega); clear hA1; have B3 := B2.trans (b3.mono B2.size); clear B2 b3)))
  have K5 := blk_new w3 (.cells #[.int .i64 3, .slice (some ⟨g1, 0, none⟩) s.length c1, .slice A2 p.length c2] 35)
  replace hC1 := Kd.C_alloc hC1 (.cells #[.int .i64 3, .slice (some ⟨g1, 0, none⟩) s.length c1, .slice A2 p.length c2] 35)
  replace hC2 := Kd.C_alloc hC2 (.cells #[.int .i64 3, .slice (some ⟨g1, 0, none⟩) s.length c1, .slice A2 p.length c2] 35)
  have B4 := below_alloc B3 (.cells #[.int .i64 3, .slice (some ⟨g1, 0, none⟩) s.length c1, .slice A2 p.length c2] 35)
  have hg5 : w.heap.size ≤ w3.heap.size := B3.size
  have hl5 : w3.heap.size < (w3.alloc (.cells #[.int .i64 3, .slice (some ⟨g1, 0, none⟩) s.length c1, .slice A2 p.length c2] 35)).heap.size := by simp
  generalize w3.alloc (.cells #[.int .i64 3, .slice (some ⟨g1, 0, none⟩) s.length c1, .slice A2 p.length c2] 35) = W4 at *
  generalize w3.heap.size = g5 at *
  clear B3 P2 S3
  go_upto_region 5 with (first | (go_at_call 30; ((with_reducible refine (hd_s4 W4 (Glob.below hG B4)).mono ?_); rintro e w5 ⟨A1', A2', c1', c2', rfl, -, -, -, -, b5, -⟩; replace K5 := blk_below K5 b5; replace hl5 := Nat.lt_of_lt_of_le hl5 b5.size; replace hC1 := Kd.C_below hC1 b5; replace hC2 := Kd.C_below hC2 b5; replace B4 := B4.trans (b5.mono B4.size); clear b5)))
  have B5 := below_alloc B4 (.cells #[.int .i64 0, .slice A1' 0 c1', .slice A2' 0 c2'] 35)
  replace K5 := blk_alloc K5 (.cells #[.int .i64 0, .slice A1' 0 c1', .slice A2' 0 c2'] 35)
  replace hC1 := Kd.C_alloc hC1 (.cells #[.int .i64 0, .slice A1' 0 c1', .slice A2' 0 c2'] 35)
  replace hC2 := Kd.C_alloc hC2 (.cells #[.int .i64 0, .slice A1' 0 c1', .slice A2' 0 c2'] 35)
  have hl6 := blk_lt K5
  generalize w5.alloc (.cells #[.int .i64 0, .slice A1' 0 c1', .slice A2' 0 c2'] 35) = W5 at *
  have hx0 : W5.cell? ⟨g5, 0, none⟩ = some (.int .i64 3) := (blk_cell K5 0).trans rfl
  have hx1 : W5.cell? ⟨g5, 1, none⟩ = some (.slice (some ⟨g1, 0, none⟩) s.length c1) := (blk_cell K5 1).trans rfl
  have hx2 : W5.cell? ⟨g5, 2, none⟩ = some (.slice A2 p.length c2) := (blk_cell K5 2).trans rfl
  have d1 : ((p.length : Int) == 2) = true := beq_iff_eq.mpr (by have := HH.out.2.2.2.1; omega)
  have d2 : ((p.length : Int) != 2) = false := bne_eq_false_iff_eq.mpr (by have := HH.out.2.2.2.1; omega)
  go_upto_region 7 with (fail)
  clear d1 d2
  go_upto_region 8 with (fail)
  clear hx0 hx1 hx2
  have K9 := blk_new W5 (.cells #[.int .i64 3, .slice (some ⟨g1, 0, none⟩) s.length c1, .slice A2 p.length c2] 35)
  have BB := below_alloc (Below.refl W5.heap.size W5) (.cells #[.int .i64 3, .slice (some ⟨g1, 0, none⟩) s.length c1, .slice A2 p.length c2] 35)
  have hg9 : w.heap.size ≤ W5.heap.size := B5.size
  have hg59 : g5 ≠ W5.heap.size := by omega
  have hl9 := blk_lt K9
  generalize W5.alloc (.cells #[.int .i64 3, .slice (some ⟨g1, 0, none⟩) s.length c1, .slice A2 p.length c2] 35) = W6 at *
  have K5' := blk_below K5 BB
  have hx2 : W6.cell? ⟨g5, 2, none⟩ = some (.slice A2 p.length c2) := (blk_cell K5' 2).trans rfl
  have hy2 : W6.cell? ⟨W5.heap.size, 2, none⟩ = some (.slice A2 p.length c2) := (blk_cell K9 2).trans rfl
  have hf2 := blk_frozen K9 2
  have q1 : (1 : Int) ≤ (c2 : Int) := by have := HH.out.2.2.2.1; omega
  go_upto_region 9 with (fail)
  clear hx2 hy2 hf2
  replace K9 := blk_put (cs' := #[.int .i64 3, .slice (some ⟨g1, 0, none⟩) s.length c1, .slice A2 1 c2]) K9 2 (.slice A2 1 c2) rfl
  replace BB := BB.setCell (p := ⟨W5.heap.size, 2, none⟩) (Nat.le_refl _) (.slice A2 1 c2)
  replace K5' := blk_below K5 BB
  have hl9' := blk_lt K9
  generalize W6.setCell ⟨W5.heap.size, 2, none⟩ (.slice A2 1 c2) = W7 at *
  have hx0 : W7.cell? ⟨g5, 0, none⟩ = some (.int .i64 3) := (blk_cell K5' 0).trans rfl
  have hx1 : W7.cell? ⟨g5, 1, none⟩ = some (.slice (some ⟨g1, 0, none⟩) s.length c1) := (blk_cell K5' 1).trans rfl
  have hx2 : W7.cell? ⟨g5, 2, none⟩ = some (.slice A2 p.length c2) := (blk_cell K5' 2).trans rfl
  go_upto_region 10 with (fail)
  clear hx0 hx1 hx2
  have K10 := blk_new W7 (.cells #[.int .i64 3, .slice (some ⟨g1, 0, none⟩) s.length c1, .slice A2 p.length c2] 35)
  replace K9 := blk_alloc K9 (.cells #[.int .i64 3, .slice (some ⟨g1, 0, none⟩) s.length c1, .slice A2 p.length c2] 35)
  replace BB := below_alloc BB (.cells #[.int .i64 3, .slice (some ⟨g1, 0, none⟩) s.length c1, .slice A2 p.length c2] 35)
  have hg10 : W5.heap.size ≠ W7.heap.size := by omega
  generalize W7.alloc (.cells #[.int .i64 3, .slice (some ⟨g1, 0, none⟩) s.length c1, .slice A2 p.length c2] 35) = W8 at *
  generalize W7.heap.size = g10 at *
  replace K5' := blk_below K5 BB
  have hx1 : W8.cell? ⟨g5, 1, none⟩ = some (.slice (some ⟨g1, 0, none⟩) s.length c1) := (blk_cell K5' 1).trans rfl
  have hy1 : W8.cell? ⟨g10, 1, none⟩ = some (.slice (some ⟨g1, 0, none⟩) s.length c1) := (blk_cell K10 1).trans rfl
  have hf1 := blk_frozen K10 1
  have q2 : (1 : Int) ≤ (s.length : Int) := by have := HH.out.2.2.1; omega
  have q3 : ¬ c1 = 1 := by have := HH.out.2.2.1; omega
  have q4 : (s.length : Int) ≤ (c1 : Int) := by omega
  go_upto_region 11 with (fail)
  clear hx1 hy1 hf1
  replace K9 := blk_far K9 (p := ⟨g10, 1, none⟩) (by show W5.heap.size ≠ g10; omega) (.slice (some ⟨g1, 1, none⟩) (s.length - 1) (c1 - 1))
  replace K10 := blk_put (cs' := #[.int .i64 3, .slice (some ⟨g1, 1, none⟩) (s.length - 1) (c1 - 1), .slice A2 p.length c2]) K10 1 (.slice (some ⟨g1, 1, none⟩) (s.length - 1) (c1 - 1)) rfl
  replace BB := BB.setCell (p := ⟨g10, 1, none⟩) (by show W5.heap.size ≤ g10; omega) (.slice (some ⟨g1, 1, none⟩) (s.length - 1) (c1 - 1))
  clear K5'
  have K5' := blk_below K5 BB
  generalize W8.setCell ⟨g10, 1, none⟩ (.slice (some ⟨g1, 1, none⟩) (s.length - 1) (c1 - 1)) = W9 at *
  have hsl : s.length = 18 := HH.out.2.2.1
  have hpl : p.length = 2 := HH.out.2.2.2.1
  have hsb : ∀ x ∈ s, x.size = 16 := by rw [HH.out.1]; exact sigL_big _ _ _
  have hpb : ∀ x ∈ p, x.size = 16 := by rw [HH.out.2.1]; exact pathL_big _ _ _
  have hGw : ∀ W, Below W5.heap.size W5 W → Glob W := fun W hW => Glob.below hG (B5.trans (hW.mono B5.size))
  have V1 := Lib.hid (fun (W : World) (hW : Below W5.heap.size W5 W) => hd_v1 W (hGw W hW) (some ⟨g1, 0, none⟩) A2 c1 c2 s p HH.out.1 HH.out.2.1 (Kd.C_below hC1 hW) hc1 (Kd.C_below hC2 hW) hc2)
  have V4 := Lib.hid (fun (W : World) (hW : Below W5.heap.size W5 W) => hd_v4 W (hGw W hW) (some ⟨g1, 0, none⟩) A2 c1 c2 s p HH.out.1 HH.out.2.1 (Kd.C_below hC1 hW) hc1 (Kd.C_below hC2 hW) hc2)
  have hp1 : (p.take 1).length = 1 := by rw [List.length_take]; omega
  have hs1 : (s.drop 1).length = s.length - 1 := List.length_drop
  have V2 := Lib.hid (fun (W : World) (hW : Below W5.heap.size W5 W) => hd_vn W (hGw W hW) R (some ⟨g1, 0, none⟩) A2 c1 c2 s (p.take 1) (fun k => absurd k.2.2.2.2.2 (by rw [hp1]; decide)) hsb (fun x hx => hpb x (List.mem_of_mem_take hx)) (by omega) (by omega)
    (Kd.C_below hC1 hW) hc1 (Kd.C_take (Kd.C_below hC2 hW) (by omega)) (by omega))
  have V3 := Lib.hid (fun (W : World) (hW : Below W5.heap.size W5 W) => hd_vn W (hGw W hW) R (some ⟨g1, 1, none⟩) A2 (c1 - 1) c2 (s.drop 1) p (fun k => absurd k.1 (by omega)) (fun x hx => hsb x (List.mem_of_mem_drop hx)) hpb (by omega) (by omega)
    (by have := Kd.C_drop (m := 1) (Kd.C_below hC1 hW) (by omega) hc1
        rw [if_neg q3] at this
        exact this) (by omega) (Kd.C_below hC2 hW) hc2)
  rw [hp1] at V2
  rw [hs1] at V3
  rw [← HH.out.2.2.2.2] at V1
  have BB' := Lib.hid BB
  clear BB hsl hpl hsb hpb hGw hp1 hs1 hC1 hC2 K5 hc1 hc2 q1 q2 q3 q4 hg5 hl5 hl6 hg59 hl9 hl9' hg10 B4
  have x0 : W9.cell? ⟨g5, 0, none⟩ = some (.int .i64 3) := (blk_cell K5' 0).trans rfl
  have x1 : W9.cell? ⟨g5, 1, none⟩ = some (.slice (some ⟨g1, 0, none⟩) s.length c1) := (blk_cell K5' 1).trans rfl
  have x2 : W9.cell? ⟨g5, 2, none⟩ = some (.slice A2 p.length c2) := (blk_cell K5' 2).trans rfl
  go_wp2_with (first
    | (go_at_call 33; ((with_reducible refine (V1.out W9 BB'.out).mono ?_); rintro e w10 ⟨rfl, b10⟩; have k5 := blk_below K5' b10; have k9 := blk_below K9 b10; have k10 := blk_below K10 b10; have BA := Lib.hid (BB'.out.trans (b10.mono BB'.out.size)); have y0 : w10.cell? ⟨W5.heap.size, 0, none⟩ = some (.int .i64 3) := (blk_cell k9 0).trans rfl; have y1 : w10.cell? ⟨W5.heap.size, 1, none⟩ = some (.slice (some ⟨g1, 0, none⟩) s.length c1) := (blk_cell k9 1).trans rfl; have y2 : w10.cell? ⟨W5.heap.size, 2, none⟩ = some (.slice A2 1 c2) := (blk_cell k9 2).trans rfl; clear b10))
    | (go_at_call 33; ((with_reducible refine (V2.out w10 BA.out).mono ?_); rintro e w11 ⟨rfl, b11⟩; replace k5 := blk_below k5 b11; replace k10 := blk_below k10 b11; have BC := Lib.hid (BA.out.trans (b11.mono BA.out.size)); have z0 : w11.cell? ⟨g10, 0, none⟩ = some (.int .i64 3) := (blk_cell k10 0).trans rfl; have z1 : w11.cell? ⟨g10, 1, none⟩ = some (.slice (some ⟨g1, 1, none⟩) (s.length - 1) (c1 - 1)) := (blk_cell k10 1).trans rfl; have z2 : w11.cell? ⟨g10, 2, none⟩ = some (.slice A2 p.length c2) := (blk_cell k10 2).trans rfl; clear b11))
    | (go_at_call 33; ((with_reducible refine (V3.out w11 BC.out).mono ?_); rintro e w12 ⟨rfl, b12⟩; replace k5 := blk_below k5 b12; have BD := Lib.hid (BC.out.trans (b12.mono BC.out.size)); have v0 : w12.cell? ⟨g5, 0, none⟩ = some (.int .i64 3) := (blk_cell k5 0).trans rfl; have v1 : w12.cell? ⟨g5, 1, none⟩ = some (.slice (some ⟨g1, 0, none⟩) s.length c1) := (blk_cell k5 1).trans rfl; have v2 : w12.cell? ⟨g5, 2, none⟩ = some (.slice A2 p.length c2) := (blk_cell k5 2).trans rfl; clear b12))
    | (go_at_call 33; ((with_reducible refine (V4.out w12 BD.out).mono ?_); rintro e w13 ⟨rfl, b13⟩; have BE := Lib.hid (BD.out.trans (b13.mono BD.out.size)); clear b13)))
  go_ret
  exact ⟨rfl, B5.trans (BE.out.mono hg9)⟩
def planispherelaw02_head.f : Option Bool := some true
theorem planispherelaw02_head.calls (r : Bool) (w : World) (h : planispherelaw02_head.f = some r) (hG : Glob w) :
    Calls Tryd.prog 25 #[] w fun e w' => e = .returned (.bool r) ∧ Below w.heap.size w w' := by
  obtain rfl := Option.some.inj h
  exact planispherelaw02_head_calls w hG
end Go.Proofs.YteleheamnighkaaDoor
end
section
set_option linter.unusedVariables false
set_option linter.unusedSimpArgs false
namespace Go.Proofs.YteleheamnighkaaDoor
open Go.RowKit Go.DoorKit Go.Proofs.YteleheamnighkaaDoorW.PrintWords
namespace Pure
theorem short2 (a b : ByteArray) : planispherelaw02_short.f [a, b] = some (BaseFacts.shortT [a, b]) := if_pos (show (2 : Nat) ≤ 9223372036854775807 by decide)
theorem shortT_out {l : List ByteArray} (h : BaseFacts.shortT l = true) : ∀ x ∈ l, x.size ≤ 300 := by
  intro x hx
  unfold BaseFacts.shortT at h
  exact of_decide_eq_true (List.all_eq_true.1 h x hx)
theorem ver_f (a0 a1 : ByteArray) (i : Int) (l1 l2 : List ByteArray) (h : verIn a1 l1 l2) : seal_Verify.f a0 a1 i l1 l2 = some (verR a0 a1 i l1 l2) := if_pos h
theorem ver_out {r msg : ByteArray} {i : Int} {l1 l2 : List ByteArray} (h : verR r msg i l1 l2 = true) : ∃ n : Nat, i = (n : Int) ∧ l1.length = 18 ∧ l2.length ≤ 8 ∧ oddB l1 = false ∧ oddB l2 = false ∧ n < 2 ^ l2.length ∧ r = ofT (Dig.climb (Dig.lst ((endsL l1 (tx msg)).map tx)) n (l2.map tx)) := by
  unfold verR at h
  by_cases hk : verOk i l1 l2
  · rw [if_pos hk] at h
    obtain ⟨h1, h2, h3, h4, h5, h6⟩ := hk
    obtain ⟨n, rfl⟩ := Int.eq_ofNat_of_zero_le h5
    rw [Int.toNat_natCast] at h
    unfold climbB at h
    exact ⟨n, rfl, h1, h2, h3, h4, by omega, (toList_eq.1 (beq_iff_eq.1 h)).symm⟩
  · rw [if_neg hk] at h; cases h
end Pure
end Go.Proofs.YteleheamnighkaaDoor
end
