/-
Operations as data; the walks of three, do and few.
-/
import Derived.Test.YtamjclpopkfhmaaHead
set_option linter.unusedVariables false
set_option linter.unusedSimpArgs false
namespace Go.Proofs.Ytamjclpopkfhmaa
open Go.RowKit Go.NetKit

/-- An operation. -/
structure OpS where
  kind : Int
  a : Int
  b : Int
  idx : Int
  at_ : Int
  mask : Int
  text : ByteArray
  flag : Bool
def opC (o : OpS) : Array Value := #[.int .i64 o.kind, .int .i64 o.a, .int .i64 o.b, .int .i64 o.idx, .int .i64 o.at_, .int .i64 o.mask, .string o.text, .bool o.flag]
def OpS.three (o : OpS) : OpS := { o with a := o.a % 3, b := (o.a % 3 + 1 + o.b % 2) % 3 }
/-- What an operation does, and answers. -/
def OpS.run (N : NetS) (o : OpS) : NetS × ByteArray × Int × Int :=
  if o.kind = 0 then ((N.send o.a o.b o.text).1, ByteArray.empty, 0, (N.send o.a o.b o.text).2)
  else if o.kind = 1 then ((N.deliver o.a o.b o.idx o.flag).1, (N.deliver o.a o.b o.idx o.flag).2.1, 0, (N.deliver o.a o.b o.idx o.flag).2.2)
  else if o.kind = 2 then ((N.lose o.a o.b o.idx).1, ByteArray.empty, 0, (N.lose o.a o.b o.idx).2)
  else if o.kind = 3 then ((N.spoil o.a o.b o.idx o.at_ o.mask).1, ByteArray.empty, 0, (N.spoil o.a o.b o.idx o.at_ o.mask).2)
  else if o.kind = 4 then ((N.cutS o.a o.b o.flag).1, ByteArray.empty, 0, (N.cutS o.a o.b o.flag).2)
  else (N, ByteArray.empty, N.count o.a o.b, 0)

theorem tmod3 (a : Int) : (a.tmod 3 + 3).tmod 3 = a % 3 := by
  have h1 := Int.tmod_eq_emod (a := a) (b := 3)
  rw [h1]
  split <;> rw [Int.tmod_eq_emod_of_nonneg (by simp at *; omega)] <;> (try simp) <;> omega
theorem tmod2 (a : Int) : (a.tmod 2 + 2).tmod 2 = a % 2 := by
  have h1 := Int.tmod_eq_emod (a := a) (b := 2)
  rw [h1]
  split <;> rw [Int.tmod_eq_emod_of_nonneg (by simp at *; omega)] <;> (try simp) <;> omega

/-- The numbers of an operation are ints. -/
structure OpS.fits (o : OpS) : Prop where
  a1 : -9223372036854775808 ≤ o.a
  a2 : o.a ≤ 9223372036854775807
  b1 : -9223372036854775808 ≤ o.b
  b2 : o.b ≤ 9223372036854775807

set_option maxHeartbeats 400000 in
theorem three_raw (o : OpS) (w : World) :
    Calls Try.prog 18 #[.agg (opC o)] w fun e w' => e = .returned (.agg (opC o.three)) ∧ Fr (fun _ => False) w w' := by
  have w1 : wrap64 (o.a.tmod 3 + 3) = o.a.tmod 3 + 3 := by
    have := Int.tmod_lt_of_pos o.a (show (0 : Int) < 3 by omega)
    have := Int.lt_tmod_of_pos o.a (show (0 : Int) < 3 by omega)
    unfold wrap64; omega
  have w2 : wrap64 (o.b.tmod 2 + 2) = o.b.tmod 2 + 2 := by
    have := Int.tmod_lt_of_pos o.b (show (0 : Int) < 2 by omega)
    have := Int.lt_tmod_of_pos o.b (show (0 : Int) < 2 by omega)
    unfold wrap64; omega
  have w3 : wrap64 (o.a % 3 + 1) = o.a % 3 + 1 := by unfold wrap64; omega
  have w4 : wrap64 (o.a % 3 + 1 + o.b % 2) = o.a % 3 + 1 + o.b % 2 := by unfold wrap64; omega
  have w5 : (o.a % 3 + 1 + o.b % 2).tmod 3 = (o.a % 3 + 1 + o.b % 2) % 3 := by
    rw [Int.tmod_eq_emod_of_nonneg (by omega)]
  have HA := Lib.hid (And.intro w1 (And.intro w2 (And.intro w3 (And.intro w4 w5))))
  clear w1 w2 w3 w4 w5
  unfold opC
  go_enter Try.func18, Try.ntmps18
  go_wp2
  obtain ⟨w1, w2, w3, w4, w5⟩ := HA.out
  simp only [w1, w2, tmod3, tmod2, w3, w4, w5]
  refine bodyPost_ret (v := .agg #[.int .i64 o.three.kind, .int .i64 o.three.a, .int .i64 o.three.b, .int .i64 o.three.idx, .int .i64 o.three.at_, .int .i64 o.three.mask, .string o.three.text, .bool o.three.flag]) (by simp [results, Try.results18, go_sem, OpS.three]) rfl ⟨rfl, ?_⟩
  exact ((Fr.refl _ w).alloc _).alloc _

theorem NetToP.after {w w1 w' : World} {p : Option Addr} {S : Nat → Prop} {N' : NetS} (hf : Fr (fun _ => False) w w1) (h : NetToP w1 w' p S N') : NetToP w w' p S N' := by
  obtain ⟨S', g1, g2, g3⟩ := h
  refine ⟨S', g1, (hf.weaken (fun _ _ h => h.elim)).trans g2, fun k hk => ?_⟩
  rcases g3 k hk with h | h
  · exact .inl h
  · have := hf.size; exact .inr (by omega)

set_option maxHeartbeats 1000000 in
theorem do_raw {w : World} {p : Option Addr} {S : Nat → Prop} {N : NetS} (h : NetP w p S N) (o : OpS) :
    Calls Try.prog 13 #[.pointer p, .agg (opC o)] w fun e w' => e = .returned (.tuple #[.string (o.run N).2.1, .int .i64 (o.run N).2.2.1, .int .i64 (o.run N).2.2.2]) ∧ NetToP w w' p S (o.run N).1 := by
  have ha : ∀ x, NetP (w.alloc (.cells x 35)) p S N := fun x => h.fr (T := fun _ => False) ((Fr.refl _ w).alloc _) (fun _ _ h => h)
  have hf : ∀ x, Fr (fun _ => False) w (w.alloc (.cells x 35)) := fun x => (Fr.refl _ w).alloc _
  have HH := Lib.hid (And.intro ha hf)
  clear h ha hf
  unfold OpS.run opC
  by_cases k0 : o.kind = 0
  · have e0 : (o.kind == 0) = true := by simp [k0]
    rw [if_pos k0]
    clear k0
    go_enter Try.func13, Try.ntmps13
    go_wp2_with (go_at_call 15; refine (send_calls (HH.out.1 _) _ _ _).mono ?_; rintro e w' ⟨rfl, hp⟩; have HP := Lib.hid hp; clear hp)
    go_ret3
    exact ⟨rfl, HP.out.after (HH.out.2 _)⟩
  · have e0 : (o.kind == 0) = false := by simp [k0]
    rw [if_neg k0]
    clear k0
    by_cases k1 : o.kind = 1
    · have e1 : (o.kind == 1) = true := by simp [k1]
      rw [if_pos k1]
      clear k1
      go_enter Try.func13, Try.ntmps13
      go_wp2_with (go_at_call 22; refine (deliver_calls (HH.out.1 _) _ _ _ _).mono ?_; rintro e w' ⟨rfl, hp⟩; have HP := Lib.hid hp; clear hp)
      go_ret3
      exact ⟨rfl, HP.out.after (HH.out.2 _)⟩
    · have e1 : (o.kind == 1) = false := by simp [k1]
      rw [if_neg k1]
      clear k1
      by_cases k2 : o.kind = 2
      · have e2 : (o.kind == 2) = true := by simp [k2]
        rw [if_pos k2]
        clear k2
        go_enter Try.func13, Try.ntmps13
        go_wp2_with (go_at_call 16; refine (lose_calls (HH.out.1 _) _ _ _).mono ?_; rintro e w' ⟨rfl, hp⟩; have HP := Lib.hid hp; clear hp)
        go_ret3
        exact ⟨rfl, HP.out.after (HH.out.2 _)⟩
      · have e2 : (o.kind == 2) = false := by simp [k2]
        rw [if_neg k2]
        clear k2
        by_cases k3 : o.kind = 3
        · have e3 : (o.kind == 3) = true := by simp [k3]
          rw [if_pos k3]
          clear k3
          go_enter Try.func13, Try.ntmps13
          go_wp2_with (go_at_call 23; refine (spoil_calls (HH.out.1 _) _ _ _ _ _).mono ?_; rintro e w' ⟨rfl, hp⟩; have HP := Lib.hid hp; clear hp)
          go_ret3
          exact ⟨rfl, HP.out.after (HH.out.2 _)⟩
        · have e3 : (o.kind == 3) = false := by simp [k3]
          rw [if_neg k3]
          clear k3
          by_cases k4 : o.kind = 4
          · have e4 : (o.kind == 4) = true := by simp [k4]
            rw [if_pos k4]
            clear k4
            go_enter Try.func13, Try.ntmps13
            go_wp2_with (go_at_call 21; refine (cut_calls (HH.out.1 _) _ _ _).mono ?_; rintro e w' ⟨rfl, hp⟩; have HP := Lib.hid hp; clear hp)
            go_ret3
            exact ⟨rfl, HP.out.after (HH.out.2 _)⟩
          · have e4 : (o.kind == 4) = false := by simp [k4]
            rw [if_neg k4]
            clear k4
            go_enter Try.func13, Try.ntmps13
            go_wp2_with (go_at_call 17; refine (count_calls (HH.out.1 _) _ _).mono ?_; rintro e w' ⟨rfl, hp⟩; have HP := Lib.hid hp; clear hp)
            go_ret3
            exact ⟨rfl, HP.out.after (HH.out.2 _)⟩

/-! A slice of operations that is read. -/
def opAt (ops : List OpS) (i : Nat) : OpS := ops.getD i ⟨0, 0, 0, 0, 0, 0, ByteArray.empty, false⟩
/-- The slice at A has the operations ops, in cells that lie below B. -/
def OpsAt (B : Nat) (w : World) (A : Option Addr) (ops : List OpS) : Prop :=
  ops.length ≤ 9223372036854775807 ∧ (0 < ops.length → ∃ b off, A = some ⟨b, off, none⟩ ∧ b < B ∧ ∀ i, i < ops.length → ∀ j v, (opC (opAt ops i))[j]? = some v → w.cell? ⟨b, off + i * 8 + j, none⟩ = some v)
theorem OpsAt.fr {B : Nat} {w w' : World} {A : Option Addr} {ops : List OpS} {S : Nat → Prop} (h : OpsAt B w A ops) (hf : Fr S w w') (hS : ∀ k, k < B → ¬ S k) : OpsAt B w' A ops := by
  refine ⟨h.1, fun hn => ?_⟩
  obtain ⟨b, off, e, hb, hc⟩ := h.2 hn
  refine ⟨b, off, e, hb, fun i hi j v hv => ?_⟩
  have h1 := hc i hi j v hv
  have hlt : b < w.heap.size := World.block_lt_of_cell? w _ h1
  have h2 : w'.heap[b]? = w.heap[b]? := hf.block b hlt (hS b hb)
  exact (World.cell?_of_block (w := w) (w' := w') (a := ⟨b, off + i * 8 + j, none⟩) h2).trans h1
def fewOps (ops : List OpS) : Bool := decide (ops.length ≤ 80) && ops.all fun o => decide (o.text.size ≤ 60)

set_option maxHeartbeats 400000 in
theorem few_raw (B : Nat) (w : World) (A : Option Addr) (c : Nat) (ops : List OpS) (h : OpsAt B w A ops) :
    Calls Try.prog 10 #[.slice A ops.length c] w fun e w' => e = .returned (.bool (fewOps ops)) ∧ w' = w := by
  have hlen := h.1
  have HH := Lib.hid h.2
  clear h
  go_enter Try.func10, Try.ntmps10
  go_wp2
  go_loop [3] (fun i => ∃ k : Nat, k ≤ ops.length ∧ i = .int .i64 k ∧ Hid (∀ j, j < k → (opAt ops j).text.size ≤ 60)) (fun i => ops.length - (intOf i).toNat)
  case atStart => exact ⟨0, Nat.zero_le _, rfl, fun j hj => absurd hj (by omega)⟩
  case round =>
    obtain ⟨k, hk, rfl, HK⟩ := hrel
    by_cases hlt : k < ops.length
    · obtain ⟨b, off, rfl, hb, hc⟩ := HH.out (by omega)
      have c6 := hc k hlt 6 (.string (opAt ops k).text) rfl
      clear hc
      by_cases hs : (opAt ops k).text.size ≤ 60
      · have hs' : ((opAt ops k).text.size : Int) ≤ 60 := by omega
        go_wp2
        go_round
        case rel => exact ⟨k + 1, by omega, by go_num, fun j hj => by
          rcases Nat.lt_succ_iff_lt_or_eq.1 hj with h | rfl
          · exact HK.out j h
          · exact hs⟩
        case measure => simp [intOf]; omega
      · have hs' : (60 : Int) < ((opAt ops k).text.size : Int) := by omega
        go_wp2
        go_ret
        refine ⟨?_, rfl⟩
        have : fewOps ops = false := by
          unfold fewOps
          rw [Bool.and_eq_false_iff]; right
          rw [List.all_eq_false]
          refine ⟨ops[k], List.getElem_mem hlt, ?_⟩
          have e : opAt ops k = ops[k] := by simp [opAt, hlt]
          rw [e] at hs; simpa using hs
        rw [this]; rfl
    · obtain rfl : k = ops.length := by omega
      go_wp2
      go_ret
      refine ⟨?_, rfl⟩
      have : (ops.all fun o => decide (o.text.size ≤ 60)) = true := by
        rw [List.all_eq_true]
        intro o ho
        obtain ⟨j, hj, rfl⟩ := List.mem_iff_getElem.1 ho
        have e : opAt ops j = ops[j] := by simp [opAt, hj]
        have := HK.out j hj
        rw [e] at this; simpa using this
      unfold fewOps
      rw [this]
      show Ending.returned (.bool (decide ((ops.length : Int) ≤ 80))) = _
      congr 2
      rw [Bool.and_true, decide_eq_decide]
      omega
end Go.Proofs.Ytamjclpopkfhmaa
