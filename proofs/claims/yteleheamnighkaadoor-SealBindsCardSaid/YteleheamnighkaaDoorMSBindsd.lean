/-
What RowSBinds leans on, part 4: the texts of this seat, merged.
-/
import Derived.Test.YteleheamnighkaaDoorMSBindsc
import Derived.Test.YteleheamnighkaaDoorProg
import Derived.Below
import Derived.Deep.Draws
import Derived.Deep.AppendLies
import Derived.Maps.AppendAt
import Derived.OwnWalk
import Derived.Laws.BytesArg
import Derived.Laws.MakeOwn
import Derived.Laws.OwnMore
import Derived.Deep.OwnRows
import Derived.Tactics
import Derived.Lib.ConvBytes
import Derived.Laws.Slices
import Derived.WalkKit
import Derived.KernelRfl
import Derived.RowKit3
import Derived.Deep.LoopGhost
import Derived.Deep.QuietTactic
import Derived.BigQuiet
import Derived.WideLaws
import Derived.Deep.DeepCutAuto
import Derived.Deep.CutBlock
import Derived.Deep.RegionHeld3
import Derived.Laws.Rows
import Derived.Lib.AppendStr
import Derived.ArgAppend
import Derived.Laws.IdiomCopy
import Derived.OrdersHeld
import Derived.Laws.BitsLemmas
import Derived.RowKit
section
set_option linter.unusedVariables false
set_option linter.unusedSimpArgs false
namespace Go.Proofs.YteleheamnighkaaDoor
open Go.RowKit Go.Shelf Go.DoorKit Go.DoorRound Go.Proofs.YteleheamnighkaaDoorW.PrintWords Go.Proofs.YteleheamnighkaaDoorW.PrintLast Go.Proofs.YteleheamnighkaaDoorW.PrintMore
attribute [local go_sem] Oper.semAt_some
def sigAt (s : Dig.Txt) (i : Nat) (m : Dig.Txt) (j : Nat) : ByteArray := ofT (Dig.chain (Dig.start0 s i j) (dAt m j))
theorem sib_lt {x n : Nat} (h : x < 2 * n) : Dig.sib x < 2 * n := by unfold Dig.sib; split <;> omega
theorem xor_sib (x : Nat) (h : x < 256) : bits .xor .i64 (x : Int) 1 = ((Dig.sib x : Nat) : Int) := by
  have : ∀ n : Fin 256, bits .xor .i64 (n.val : Int) 1 = ((Dig.sib n.val : Nat) : Int) := by decide +kernel
  exact this ⟨x, h⟩
def pathL (s : Dig.Txt) (i h : Nat) : List ByteArray := (List.range h).map fun j => ofT (Dig.tree s j (Dig.sib (i / 2 ^ j)))
theorem pathL_len (s : Dig.Txt) (i h : Nat) : (pathL s i h).length = h := by simp [pathL]
def sigL (s : Dig.Txt) (i : Nat) (m : Dig.Txt) : List ByteArray := (List.finRange 18).map fun j => sigAt s i m j.val
theorem sigL_len (s : Dig.Txt) (i : Nat) (m : Dig.Txt) : (sigL s i m).length = 18 := by simp [sigL]
def NoPanic (Q : Exit → Act → World → Prop) : Exit → Act → World → Prop
  | .panic _, _, _ => False
  | e, a, w => Q e a w
theorem noPanic_le (Q : Exit → Act → World → Prop) : ∀ e a w, NoPanic Q e a w → Q e a w := fun e a w h => by cases e <;> first | exact h | exact h.elim
def SignsTo (a0 : ByteArray) (hgt idx : Nat) (msg : ByteArray) (w : World) (e : Ending) (w' : World) : Prop :=
  ∃ v1_ v2_ : Value, e = .returned (.tuple #[.agg #[.int .i64 idx, v1_, v2_], .int .i64 0]) ∧ Kd.R Kd.string 9 w' w.heap.size (fun k_ => some k_ ≠ (v2_ : Value).ownBlock) v1_ (sigL (tx a0) idx (tx msg)) ∧
    Kd.R Kd.string 9 w' w.heap.size (fun k_ => some k_ ≠ (v1_ : Value).ownBlock) v2_ (pathL (tx a0) idx hgt) ∧ Below w.heap.size w w'
theorem above_lvl (s : Dig.Txt) (al : Addr) (Ac n m j : Nat) (W : World) {N0 : Nat} {ok : Nat → Prop} (h : Kd.R Kd.string 9 W N0 ok (.slice (some al) n Ac) (lvl s n j)) (hn : n = 2 * m) (h0 : 0 < m) (hm : m ≤ 400) (hG : Glob W) :
    Calls Tryd.prog 49 #[.slice (some al) n Ac] W fun e w' => ∃ v0_ : Value, e = .returned v0_ ∧ Kd.R Kd.string 9 w' W.heap.size (fun _ => True) v0_ (lvl s m (j + 1)) ∧ Below W.heap.size W w' := by
  obtain ⟨_, hc, hC⟩ := Kd.R_reads' h
  have hl := lvl_len s n j
  have := seal_above.calls (some al) Ac (lvl s n j) (lvl s m (j + 1)) W hC (by omega) ?_ hG
  · rw [hl] at this; exact this
  · unfold seal_above.f
    rw [if_pos, hn, upL_lvl]
    refine ⟨⟨by omega, fun x hx => by rw [lvl_size s n j x hx]; decide⟩, by omega, by omega⟩
def SignLoop (a0 : ByteArray) (hgt idx : Nat) (msg : ByteArray) (w : World) (D N0 N1 : Nat) (v l i : Value) (W : World) : Prop :=
  ∃ (j : Nat) (u : Value), j ≤ hgt ∧ i = .int .i64 ((idx / 2 ^ j : Nat) : Int) ∧ Kd.R Kd.string 9 W N0 (fun k => N0 ≤ k ∧ some k ≠ u.ownBlock) l (lvl (tx a0) (2 ^ (hgt - j)) j) ∧
    Kd.R Kd.string 9 W N1 (fun k => N1 ≤ k) u (pathL (tx a0) idx j) ∧ W.heap[w.heap.size + 1 + 1 + 1]? = some (.cells #[.int .i64 idx, v, u] 35 (0, 0)) ∧
    W.heap[w.heap.size + 1 + 1]? = some (.cells #[.int .i64 0, .slice none 0 0, .slice none 0 0] 35 (0, 0)) ∧ W.heap[D]? = some (.deferred (some [])) ∧
    Kd.R Kd.string 9 W N0 (fun k => N0 ≤ k ∧ k < N1) v (sigL (tx a0) idx (tx msg)) ∧ Below w.heap.size w W ∧ N1 ≤ W.heap.size
def lenV : Value → Nat
  | .slice _ n _ => n
  | _ => 0
theorem dAt_le (m : Dig.Txt) (j : Nat) : dAt m j ≤ 15 := by
  have hl : ∀ x ∈ (Dig.sum m).map Dig.hexv, x ≤ 15 := by
    intro x hx
    obtain ⟨c, hc, rfl⟩ := List.mem_map.1 hx
    exact (hex_char c (Pure.sum_hex _ c hc)).2.2
  have hr := rest_le ((Dig.sum m).map Dig.hexv)
  have hlen : ((Dig.sum m).map Dig.hexv).length = 16 := by rw [List.length_map, Dig.sum_len]
  unfold dAt Dig.digits
  generalize (Dig.sum m).map Dig.hexv = L at *
  dsimp only
  generalize Dig.restOf L = R at *
  rw [hlen] at hr
  rw [List.getD_eq_getElem?_getD]
  have hall : ∀ x ∈ L ++ [R / 16, R % 16], x ≤ 15 := by
    intro x hx
    rcases List.mem_append.1 hx with h | h
    · exact hl x h
    · simp only [List.mem_cons, List.not_mem_nil, or_false] at h
      omega
  cases h : (L ++ [R / 16, R % 16])[j]? with
  | none => exact Nat.zero_le _
  | some x => exact hall x (List.mem_of_getElem? h)
theorem grownBy_setCellI (W : World) (b i : Nat) (v : Value) : W.grownBy (W.setCell ⟨b, i, none⟩ v) (some b) :=
  ⟨rfl, rfl, rfl, (KeepsWalks.setCell W _ v).size, fun k _ hk => Below.heap_setCell _ _ _ k (fun e => hk (by rw [e]))⟩
theorem blk_own {β : Type} (B g : Nat) (cs : Array Value) (t : TypeId) : OwnFrom B (fun (_ : β) W => W.heap[g]? = some (.cells cs t (0, 0))) := by
  intro s X Y row hs hg hrow
  exact (grownBy_keeps_cells hg (fun r e => (hrow r e).2) hs rfl).trans hs
theorem row_ne {W : World} {base k : Nat} {e : TypeId} {size n : Nat} {v : Value} {xs : List Value} (h : W.ownsRow base e size v n xs) (hk : k < base) : some k ≠ v.ownBlock := by
  rcases h.2 with ⟨rfl, _⟩ | ⟨g, cap, cur, rfl, hb, _⟩
  · simp [Value.ownBlock]
  · intro e
    obtain rfl : k = g := by simpa [Value.ownBlock] using e
    omega
theorem blkRow_own (g base B : Nat) (a0 msg : ByteArray) (idx : Nat) : OwnFrom B (fun (pre : List (Fin 18)) W => ∃ v, W.heap[g]? = some (.cells #[.int .i64 idx, v, .slice none 0 0] 35 (0, 0)) ∧
    W.ownsRow base 9 1 v pre.length (pre.map fun j => Value.string (sigAt (tx a0) idx (tx msg) j.val))) := by
  rintro s X Y row ⟨v, hv, hr⟩ hg hrow
  refine ⟨v, (grownBy_keeps_cells hg (fun r e => (hrow r e).2) hv rfl).trans hv, hr.kept hg ?_⟩
  rcases hr.2 with ⟨rfl, _⟩ | ⟨g, cap, cur, rfl, _, hgb, _⟩
  · exact .inl rfl
  · refine .inr fun e' => ?_
    obtain ⟨_, o, ho, hc⟩ := hrow g (by simpa [Value.ownBlock] using e'.symm)
    rw [hgb] at ho; cases ho; cases hc
theorem sign_start (a0 msg : ByteArray) (idx nq : Nat) (w W0 : World)
    (h : (((((((((w.alloc (.cells #[.string a0] 9)).alloc (.cells #[.int .i64 idx] 3)).alloc (.cells #[.int .i64 0, .slice none 0 0, .slice none 0 0] 35)).alloc (.cells #[.int .i64 0, .slice none 0 0, .slice none 0 0] 35)).drewN nq).setCell ⟨w.heap.size + 1 + 1 + 1, 0, none⟩ (.int .i64 idx)).setCell ⟨w.heap.size + 1 + 1 + 1, 1, none⟩ (.slice none 0 0)).setCell ⟨w.heap.size + 1 + 1 + 1, 2, none⟩ (.slice none 0 0)).alloc (.cells #[.string msg] 9)) = W0) :
    W0.heap.size = w.heap.size + 5 ∧ Boxed W0 w.heap.size 9 (.string a0) ∧ Boxed W0 (w.heap.size + 1) 3 (.int .i64 idx) ∧ W0.heap[w.heap.size + 1 + 1]? = some (.cells #[.int .i64 0, .slice none 0 0, .slice none 0 0] 35 (0, 0)) ∧
      W0.heap[w.heap.size + 1 + 1 + 1]? = some (.cells #[.int .i64 idx, .slice none 0 0, .slice none 0 0] 35 (0, 0)) ∧ W0.cell? ⟨w.heap.size + 1 + 1 + 1 + 1, 0, none⟩ = some (.string msg) ∧ Below w.heap.size w W0 := by
  have k1 := blk_new w (.cells #[.string a0] 9)
  have b1 := below_alloc (Below.refl w.heap.size w) (.cells #[.string a0] 9)
  generalize hw1 : w.alloc (.cells #[.string a0] 9) = w1 at *
  have s1 : w1.heap.size = w.heap.size + 1 := by rw [← hw1]; simp
  have k2 := blk_new w1 (.cells #[.int .i64 idx] 3)
  have b2 := below_alloc b1 (.cells #[.int .i64 idx] 3)
  replace k1 := blk_alloc k1 (.cells #[.int .i64 idx] 3)
  rw [s1] at k2
  generalize hw2 : w1.alloc (.cells #[.int .i64 idx] 3) = w2 at *
  have s2 : w2.heap.size = w.heap.size + 1 + 1 := by rw [← hw2]; simp [s1]
  have k3 := blk_new w2 (.cells #[.int .i64 0, .slice none 0 0, .slice none 0 0] 35)
  have b3 := below_alloc b2 (.cells #[.int .i64 0, .slice none 0 0, .slice none 0 0] 35)
  replace k1 := blk_alloc k1 (.cells #[.int .i64 0, .slice none 0 0, .slice none 0 0] 35)
  replace k2 := blk_alloc k2 (.cells #[.int .i64 0, .slice none 0 0, .slice none 0 0] 35)
  rw [s2] at k3
  generalize hw3 : w2.alloc (.cells #[.int .i64 0, .slice none 0 0, .slice none 0 0] 35) = w3 at *
  have s3 : w3.heap.size = w.heap.size + 1 + 1 + 1 := by rw [← hw3]; simp [s2]
  have k4 := blk_new w3 (.cells #[.int .i64 0, .slice none 0 0, .slice none 0 0] 35)
  have b4 := below_alloc b3 (.cells #[.int .i64 0, .slice none 0 0, .slice none 0 0] 35)
  replace k1 := blk_alloc k1 (.cells #[.int .i64 0, .slice none 0 0, .slice none 0 0] 35)
  replace k2 := blk_alloc k2 (.cells #[.int .i64 0, .slice none 0 0, .slice none 0 0] 35)
  replace k3 := blk_alloc k3 (.cells #[.int .i64 0, .slice none 0 0, .slice none 0 0] 35)
  rw [s3] at k4
  generalize hw4 : w3.alloc (.cells #[.int .i64 0, .slice none 0 0, .slice none 0 0] 35) = w4 at *
  have s4 : w4.heap.size = w.heap.size + 1 + 1 + 1 + 1 := by rw [← hw4]; simp [s3]
  replace b4 := pw_below_drewN b4 nq
  replace k1 := blk_drewN k1 nq
  replace k2 := blk_drewN k2 nq
  replace k3 := blk_drewN k3 nq
  replace k4 := blk_drewN k4 nq
  have s5 : (w4.drewN nq).heap.size = w.heap.size + 1 + 1 + 1 + 1 := s4
  generalize w4.drewN nq = w5 at *
  obtain ⟨w6, hw6⟩ : ∃ w6, w5.setCell ⟨w.heap.size + 1 + 1 + 1, 0, none⟩ (.int .i64 idx) = w6 := ⟨_, rfl⟩
  have j1 := blk_far k1 (p := ⟨w.heap.size + 1 + 1 + 1, 0, none⟩) (by show w.heap.size ≠ w.heap.size + 1 + 1 + 1; omega) (.int .i64 idx)
  have j2 := blk_far k2 (p := ⟨w.heap.size + 1 + 1 + 1, 0, none⟩) (by show w.heap.size + 1 ≠ w.heap.size + 1 + 1 + 1; omega) (.int .i64 idx)
  have j3 := blk_far k3 (p := ⟨w.heap.size + 1 + 1 + 1, 0, none⟩) (by show w.heap.size + 1 + 1 ≠ w.heap.size + 1 + 1 + 1; omega) (.int .i64 idx)
  have j4 := blk_put (cs' := #[.int .i64 idx, .slice none 0 0, .slice none 0 0]) k4 0 (.int .i64 idx) rfl
  have b5 := b4.setCell (p := ⟨w.heap.size + 1 + 1 + 1, 0, none⟩) (by show w.heap.size ≤ w.heap.size + 1 + 1 + 1; omega) (.int .i64 idx)
  have s6 : (w5.setCell ⟨w.heap.size + 1 + 1 + 1, 0, none⟩ (.int .i64 idx)).heap.size = w.heap.size + 1 + 1 + 1 + 1 := by simp [World.setCell, s5]
  generalize w5.setCell ⟨w.heap.size + 1 + 1 + 1, 0, none⟩ (.int .i64 idx) = w6 at *
  replace j1 := blk_far j1 (p := ⟨w.heap.size + 1 + 1 + 1, 1, none⟩) (by show w.heap.size ≠ w.heap.size + 1 + 1 + 1; omega) (.slice none 0 0)
  replace j2 := blk_far j2 (p := ⟨w.heap.size + 1 + 1 + 1, 1, none⟩) (by show w.heap.size + 1 ≠ w.heap.size + 1 + 1 + 1; omega) (.slice none 0 0)
  replace j3 := blk_far j3 (p := ⟨w.heap.size + 1 + 1 + 1, 1, none⟩) (by show w.heap.size + 1 + 1 ≠ w.heap.size + 1 + 1 + 1; omega) (.slice none 0 0)
  replace j4 := blk_put (cs' := #[.int .i64 idx, .slice none 0 0, .slice none 0 0]) j4 1 (.slice none 0 0) rfl
  replace b5 := b5.setCell (p := ⟨w.heap.size + 1 + 1 + 1, 1, none⟩) (by show w.heap.size ≤ w.heap.size + 1 + 1 + 1; omega) (.slice none 0 0)
  have s7 : (w6.setCell ⟨w.heap.size + 1 + 1 + 1, 1, none⟩ (.slice none 0 0)).heap.size = w.heap.size + 1 + 1 + 1 + 1 := by simp [World.setCell, s6]
  generalize w6.setCell ⟨w.heap.size + 1 + 1 + 1, 1, none⟩ (.slice none 0 0) = w7 at *
  replace j1 := blk_far j1 (p := ⟨w.heap.size + 1 + 1 + 1, 2, none⟩) (by show w.heap.size ≠ w.heap.size + 1 + 1 + 1; omega) (.slice none 0 0)
  replace j2 := blk_far j2 (p := ⟨w.heap.size + 1 + 1 + 1, 2, none⟩) (by show w.heap.size + 1 ≠ w.heap.size + 1 + 1 + 1; omega) (.slice none 0 0)
  replace j3 := blk_far j3 (p := ⟨w.heap.size + 1 + 1 + 1, 2, none⟩) (by show w.heap.size + 1 + 1 ≠ w.heap.size + 1 + 1 + 1; omega) (.slice none 0 0)
  replace j4 := blk_put (cs' := #[.int .i64 idx, .slice none 0 0, .slice none 0 0]) j4 2 (.slice none 0 0) rfl
  replace b5 := b5.setCell (p := ⟨w.heap.size + 1 + 1 + 1, 2, none⟩) (by show w.heap.size ≤ w.heap.size + 1 + 1 + 1; omega) (.slice none 0 0)
  have s8 : (w7.setCell ⟨w.heap.size + 1 + 1 + 1, 2, none⟩ (.slice none 0 0)).heap.size = w.heap.size + 1 + 1 + 1 + 1 := by simp [World.setCell, s7]
  generalize w7.setCell ⟨w.heap.size + 1 + 1 + 1, 2, none⟩ (.slice none 0 0) = w8 at *
  subst h
  have k5 := blk_new w8 (.cells #[.string msg] 9)
  rw [s8] at k5
  exact ⟨by simp [s8], blk_alloc j1 _, blk_alloc j2 _, blk_alloc j3 _, blk_alloc j4 _, (blk_cell k5 0).trans rfl, below_alloc b5 _⟩
theorem sign_end {a0 : ByteArray} {hgt idx : Nat} {msg : ByteArray} {w wr : World} {D N0 N1 gR : Nat} {Au Av : Option Addr} {Acu Acv : Nat} {tm : Array Value} (t9 : tm.getD 9 undef = .int .i64 0) (t8 : tm.getD 8 undef = .pointer (some ⟨gR, 0, none⟩))
    (h0 : w.heap.size ≤ gR) (h1 : gR < N0) (h2 : N0 ≤ N1) (h3 : N0 ≤ D)
    (hU : Kd.R Kd.string 9 wr N1 (fun k => N1 ≤ k) (.slice Au (pathL (tx a0) idx hgt).length Acu) (pathL (tx a0) idx hgt))
    (hV : Kd.R Kd.string 9 wr N0 (fun k => N0 ≤ k ∧ k < N1) (.slice Av (sigL (tx a0) idx (tx msg)).length Acv) (sigL (tx a0) idx (tx msg)))
    (gR0 : wr.heap[gR]? = some (.cells #[.int .i64 0, .slice none 0 0, .slice none 0 0] 35 (0, 0))) (gD : wr.heap[D]? = some (.deferred (some []))) (hB : Below w.heap.size w wr) :
    NoPanic (bodyPostM Fence.wide 5 Tryd.prog Tryd.f30 (SignsTo a0 hgt idx msg w)) .ret { tmps := tm, defers := [{ target := .collected D, args := #[] }] }
      (((wr.setCell ⟨gR, 0, none⟩ (.int .i64 idx)).setCell ⟨gR, 1, none⟩ (.slice Av (sigL (tx a0) idx (tx msg)).length Acv)).setCell ⟨gR, 2, none⟩ (.slice Au (pathL (tx a0) idx hgt).length Acu)) := by
  have u1 := Kd.R_far (Kd.R_far (Kd.R_far hU (p := ⟨gR, 0, none⟩) (fun k hk e => by have e' : k = gR := e; omega) (.int .i64 idx)) (p := ⟨gR, 1, none⟩) (fun k hk e => by have e' : k = gR := e; omega) (.slice Av (sigL (tx a0) idx (tx msg)).length Acv)) (p := ⟨gR, 2, none⟩) (fun k hk e => by have e' : k = gR := e; omega) (.slice Au (pathL (tx a0) idx hgt).length Acu)
  have v1 := Kd.R_far (Kd.R_far (Kd.R_far hV (p := ⟨gR, 0, none⟩) (fun k hk e => by have e' : k = gR := e; have := hk.1; omega) (.int .i64 idx)) (p := ⟨gR, 1, none⟩) (fun k hk e => by have e' : k = gR := e; have := hk.1; omega) (.slice Av (sigL (tx a0) idx (tx msg)).length Acv)) (p := ⟨gR, 2, none⟩) (fun k hk e => by have e' : k = gR := e; have := hk.1; omega) (.slice Au (pathL (tx a0) idx hgt).length Acu)
  have r1 := blk_put (cs' := #[.int .i64 idx, .slice Av (sigL (tx a0) idx (tx msg)).length Acv, .slice Au (pathL (tx a0) idx hgt).length Acu]) (blk_put (cs' := #[.int .i64 idx, .slice Av (sigL (tx a0) idx (tx msg)).length Acv, .slice none 0 0]) (blk_put (cs' := #[.int .i64 idx, .slice none 0 0, .slice none 0 0]) gR0 0 (.int .i64 idx) rfl) 1 (.slice Av (sigL (tx a0) idx (tx msg)).length Acv) rfl) 2 (.slice Au (pathL (tx a0) idx hgt).length Acu) rfl
  have hDg : D ≠ gR := by omega
  have d1 := (Below.heap_setCell ((wr.setCell ⟨gR, 0, none⟩ (.int .i64 idx)).setCell ⟨gR, 1, none⟩ (.slice Av (sigL (tx a0) idx (tx msg)).length Acv)) ⟨gR, 2, none⟩ (.slice Au (pathL (tx a0) idx hgt).length Acu) D hDg).trans
    ((Below.heap_setCell (wr.setCell ⟨gR, 0, none⟩ (.int .i64 idx)) ⟨gR, 1, none⟩ (.slice Av (sigL (tx a0) idx (tx msg)).length Acv) D hDg).trans ((Below.heap_setCell wr ⟨gR, 0, none⟩ (.int .i64 idx) D hDg).trans gD))
  have b1 := ((hB.setCell (p := ⟨gR, 0, none⟩) h0 (.int .i64 idx)).setCell (p := ⟨gR, 1, none⟩) h0 (.slice Av (sigL (tx a0) idx (tx msg)).length Acv)).setCell (p := ⟨gR, 2, none⟩) h0 (.slice Au (pathL (tx a0) idx hgt).length Acu)
  generalize ((wr.setCell ⟨gR, 0, none⟩ (.int .i64 idx)).setCell ⟨gR, 1, none⟩ (.slice Av (sigL (tx a0) idx (tx msg)).length Acv)).setCell ⟨gR, 2, none⟩ (.slice Au (pathL (tx a0) idx hgt).length Acu) = W5 at *
  clear hU hV gR0 gD hB
  have hDl : D < W5.heap.size := blk_lt d1
  have r2 : (W5.putObj D (.deferred none)).heap[gR]? = some (.cells #[.int .i64 idx, .slice Av (sigL (tx a0) idx (tx msg)).length Acv, .slice Au (pathL (tx a0) idx hgt).length Acu] 35 (0, 0)) := (World.putObj_heap_other (fun e => hDg e.symm)).trans r1
  have u2 := Kd.R_step (w1 := W5.putObj D (.deferred none)) (Kd.R_bound u1) (fun k hk _ => World.putObj_heap_other (fun e => by
    obtain ⟨_, _, _, q, _, cs, hc⟩ := hk
    rw [e, d1] at hc; cases hc))
  have v2 := Kd.R_step (w1 := W5.putObj D (.deferred none)) (Kd.R_bound v1) (fun k hk _ => World.putObj_heap_other (fun e => by
    obtain ⟨_, _, _, q, _, cs, hc⟩ := hk
    rw [e, d1] at hc; cases hc))
  have b2 : Below w.heap.size w (W5.putObj D (.deferred none)) := b1.trans (belowK_b (w := w) (Nat.le_refl _) W5 D _ _ (by omega) d1 rfl rfl)
  refine ⟨by simp, .inl ⟨_, _, rfl, run_takeDeferred d1, ?_⟩⟩
  refine ⟨_, results_ct rfl _ _ gR 35 _ (0, 0) _ t8 r2 Tryd.underlying35 rfl (by kernel_rfl), ?_⟩
  refine ⟨_, _, ?_, Kd.R_mono (Kd.R_lower v2 (by omega)) (fun k hk e => ?_), Kd.R_mono (Kd.R_lower u2 (by omega)) (fun k hk e => ?_), b2⟩
  · show Ending.returned _ = Ending.returned _
    rw [t9]
  · have := Kd.R_base u2 k e.symm; have := hk.1.2; omega
  · have h5 := (v2.1 k e.symm).1.2; have h6 := hk.1; omega
set_option maxRecDepth 100000 in
set_option maxHeartbeats 4000000 in
theorem sign_in (a0 : ByteArray) (hgt idx : Nat) (msg : ByteArray) (w : World) (hs : a0.size ≤ 10000) (hm : msg.size ≤ 140737488355328) (hh : hgt ≤ 8) (hi : idx < 2 ^ hgt) (hG : Glob w) :
    CallsIn Fence.wide 5 Tryd.prog 30 #[.string a0, .int .i64 hgt, .int .i64 idx, .string msg] w fun e w' => SignsTo a0 hgt idx msg w e w' := by
  have hpow : (2 : Int) ^ hgt = ((2 ^ hgt : Nat) : Int) := by simp
  have hp2 : 2 ^ hgt ≤ 256 := by have := Nat.pow_le_pow_right (show 0 < 2 by decide) hh; simpa using this
  generalize hP : 2 ^ hgt = Pw at *
  refine callsIn_of_wp_marks Tryd.func30 rfl trivial ?_ rfl
  simp only [Tryd.ntmps30, List.size_toArray, List.length_cons, List.length_nil, Nat.reduceAdd, Nat.reduceSub, Array.replicate_succ, Array.replicate_zero, List.push_toArray, List.append_toArray, List.nil_append, List.cons_append]
  refine wpIn_wide.2 ?_
  go_wp2
  have d1 : decide ((hgt : Int) < 0) = false := decide_eq_false (by omega)
  have d2 : decide ((8 : Int) < (hgt : Int)) = false := decide_eq_false (by omega)
  have d3 : decide ((idx : Int) < 0) = false := decide_eq_false (by omega)
  have d4 : decide ((Pw : Int) ≤ (idx : Int)) = false := decide_eq_false (by omega)
  have d5 : IntKind.i64.wrap (Pw : Int) = (Pw : Int) := IntWalk.i64_in _ (by omega)
  go_quiet (fail)
  clear d1 d2 d3 d4 d5
  go_wp2_with (go_at_call 52; refine (callsIn_wide.1 (digits_in 5 msg _)).mono ?_; rintro e w1 ⟨rfl, rfl⟩)
  obtain ⟨W0, hW0⟩ : ∃ W0, (((((((((w.alloc (.cells #[.string a0] 9)).alloc (.cells #[.int .i64 idx] 3)).alloc (.cells #[.int .i64 0, .slice none 0 0, .slice none 0 0] 35)).alloc (.cells #[.int .i64 0, .slice none 0 0, .slice none 0 0] 35)).drewN nq).setCell ⟨w.heap.size + 1 + 1 + 1, 0, none⟩ (.int .i64 idx)).setCell ⟨w.heap.size + 1 + 1 + 1, 1, none⟩ (.slice none 0 0)).setCell ⟨w.heap.size + 1 + 1 + 1, 2, none⟩ (.slice none 0 0)).alloc (.cells #[.string msg] 9)) = W0 := ⟨_, rfl⟩
  obtain ⟨hsz, bS, bI, bR, bO, bM, hB0⟩ := sign_start a0 msg idx nq w W0 hW0
  rw [hW0]
  clear hW0
  have hst := digits_stops 4 (by decide) (w.heap.size + 1 + 1 + 1 + 1) msg hm W0 (by omega) bM
  have o1 := blkRow_own (w.heap.size + 1 + 1 + 1) W0.heap.size W0.heap.size a0 msg idx
  have o2 : OwnFrom W0.heap.size (fun (pre : List (Fin 18)) W => Boxed W w.heap.size 9 (.string a0)) := Own.from (boxed_own _ _ _) _
  have o3 : OwnFrom W0.heap.size (fun (pre : List (Fin 18)) W => Boxed W (w.heap.size + 1) 3 (.int .i64 idx)) := Own.from (boxed_own _ _ _) _
  have o4 : OwnFrom W0.heap.size (fun (pre : List (Fin 18)) W => W.heap[w.heap.size + 1 + 1]? = some (.cells #[.int .i64 0, .slice none 0 0, .slice none 0 0] 35 (0, 0))) := blk_own _ _ _ _
  have o5 : OwnFrom W0.heap.size (fun (pre : List (Fin 18)) W => Below w.heap.size w W) := ownFrom_below (Nat.le_refl _) (by omega)
  have o6 : OwnFrom W0.heap.size (fun (pre : List (Fin 18)) W => W0.heap.size ≤ W.heap.size) := fun _ X Y row h hg _ => Nat.le_trans h hg.size
  refine (wpIn_wide (n := 5)).1 ?_
  refine wpIn_rangeFunc_ownG rfl (by decide) (gf := 83) (lb := #[.pointer (some ⟨w.heap.size + 1 + 1 + 1 + 1, 0, none⟩)]) rfl trivial (enters_of Tryd.func83 (by kernel_rfl) rfl)
    hst (fun _ _ => trivial) (fun _ _ _ _ _ _ _ _ => trivial) (Below.refl _ _) (fun _ => rfl) _ (fun _ _ _ => False) (OwnFrom.and (OwnFrom.and o1 (OwnFrom.and o2 o3)) (OwnFrom.and o4 (OwnFrom.and o5 o6))) (fun _ _ _ _ _ hs _ _ => hs) ⟨⟨⟨_, bO, World.ownsRow_nil _ _ _ _⟩, bS, bI⟩, bR, hB0, Nat.le_refl _⟩
    (fun x => { tmps := #[.string a0, .int .i64 hgt, .int .i64 idx, .string msg, .pointer (some ⟨w.heap.size, 0, none⟩), undef, .pointer (some ⟨w.heap.size + 1, 0, none⟩), undef, .pointer (some ⟨w.heap.size + 1 + 1, 0, none⟩), .int .i64 0, .pointer (some ⟨w.heap.size + 1 + 1 + 1, 0, none⟩), .int .i64 ((x.val : Nat) : Int), .int .i64 ((dAt (tx msg) x.val : Nat) : Int), undef, undef, .int .i64 hgt, .bool false, .bool false, .int .i64 hgt, .bool false, .bool false, .bool false, .int .i64 idx, .bool false, .bool false, .bool false, .int .i64 idx, .int .i64 hgt, .int .i64 Pw, .bool false, .bool false, undef, .int .i64 idx, .agg #[.int .i64 idx, .slice none 0 0, .slice none 0 0], .string msg, .func (.func 83) #[] #[.pointer (some ⟨w.heap.size + 1 + 1 + 1 + 1, 0, none⟩)], .int .i64 ((x.val : Nat) : Int), .int .i64 ((dAt (tx msg) x.val : Nat) : Int), undef, undef, undef, undef, undef, undef, undef, undef, undef, undef, undef, undef, undef, undef, undef, undef, undef, undef, undef, undef, undef, undef, undef, undef, undef, undef, undef, undef, undef, undef, undef, undef, undef], defers := [] }) ?assign ?body ?done ?stop
  case assign =>
    intro l x W K hK
    gi_wp2
    exact hK
  case stop =>
    rintro D c pre W _ _ h _
    exact h.elim
  case body =>
    rintro lr pre x W ⟨⟨⟨v, hv, hrow⟩, hbs, hbi⟩, hbr, hB, hN⟩ hlt
    have hc := hv
    dsimp only
    refine wpIn_block ?_
    refine region_in (noDefer_of (by kernel_rfl)) ?hlo (by kernel_rfl) ?_
    case hlo => rintro ⟨a, w', h⟩; exact h
    have r0 : W.cell? ⟨w.heap.size + 1 + 1 + 1, 1, none⟩ = some v := (blk_cell hv 1).trans rfl
    refine wpAny_of_last (S := fun w' => w'.cell? ⟨w.heap.size + 1 + 1 + 1, 1, none⟩ = some v ∧ w'.cell? ⟨w.heap.size, 0, none⟩ = some (.string a0) ∧ w'.cell? ⟨w.heap.size + 1, 0, none⟩ = some (.int .i64 idx)) (ds := [9, 11]) _ _ _ _ ?_
    show wpAnyLast _ _ _ _ _ _ 12 (#[false, false, false, false, false, false, false, false, false, false, false, false] : Array Bool) _ W.drew
    have hHeld : W.drew.cell? ⟨w.heap.size + 1 + 1 + 1, 1, none⟩ = some v ∧ W.drew.cell? ⟨w.heap.size, 0, none⟩ = some (.string a0) ∧ W.drew.cell? ⟨w.heap.size + 1, 0, none⟩ = some (.int .i64 idx) := ⟨r0, hbs.cell, hbi.cell⟩
    generalize hWd : W.drew = Wd at hHeld ⊢
    refine pure_ (i := 0) (N := some 38) (v := ?_) (a' := ?_) #[true, false, false, false, false, false, false, false, false, false, false, false] rfl rfl (any_of rfl (by kernel_rfl)) (fun _ _ _ h => h) (Or.inl ⟨by rfl, ?_⟩) ?_ ?_
    rotate_left
    · intro w'
      go_simp
      with_reducible rfl
    rotate_left
    · simp only [Act.put, List.setIfInBounds_toArray, List.set_cons_zero, List.set_cons_succ, i64_w, i32_w]
      rfl
    refine take_ (i := 1) (N := some 39) (v := ?_) (a' := ?_) #[true, true, false, false, false, false, false, false, false, false, false, false] rfl rfl (take_of rfl (by kernel_rfl)) (fun _ _ _ h => h) (Or.inl ⟨by rfl, ?_⟩) hHeld ?_ ?_
    rotate_left
    · rintro w' ⟨s0, s1, s2⟩
      go_simp
      with_reducible rfl
    rotate_left
    · simp only [Act.put, List.setIfInBounds_toArray, List.set_cons_zero, List.set_cons_succ, i64_w, i32_w]
      rfl
    refine take_ (i := 2) (N := some 40) (v := ?_) (a' := ?_) #[true, true, true, false, false, false, false, false, false, false, false, false] rfl rfl (take_of rfl (by kernel_rfl)) (fun _ _ _ h => h) (Or.inl ⟨by rfl, ?_⟩) hHeld ?_ ?_
    rotate_left
    · rintro w' ⟨s0, s1, s2⟩
      go_simp
      with_reducible rfl
    rotate_left
    · simp only [Act.put, List.setIfInBounds_toArray, List.set_cons_zero, List.set_cons_succ, i64_w, i32_w]
      rfl
    refine take_ (i := 3) (N := some 41) (v := ?_) (a' := ?_) #[true, true, true, true, false, false, false, false, false, false, false, false] rfl rfl (take_of rfl (by kernel_rfl)) (fun _ _ _ h => h) (Or.inl ⟨by rfl, ?_⟩) hHeld ?_ ?_
    rotate_left
    · rintro w' ⟨s0, s1, s2⟩
      go_simp
      with_reducible rfl
    rotate_left
    · simp only [Act.put, List.setIfInBounds_toArray, List.set_cons_zero, List.set_cons_succ, i64_w, i32_w]
      rfl
    refine pure_ (i := 4) (N := some 42) (v := ?_) (a' := ?_) #[true, true, true, true, true, false, false, false, false, false, false, false] rfl rfl (any_of rfl (by kernel_rfl)) (fun _ _ _ h => h) (Or.inl ⟨by rfl, ?_⟩) ?_ ?_
    rotate_left
    · intro w'
      go_simp
      with_reducible rfl
    rotate_left
    · simp only [Act.put, List.setIfInBounds_toArray, List.set_cons_zero, List.set_cons_succ, i64_w, i32_w]
      rfl
    refine pure_ (i := 6) (N := some 44) (v := ?_) (a' := ?_) #[true, true, true, true, true, false, true, false, false, false, false, false] rfl rfl (any_of rfl (by kernel_rfl)) (fun _ _ _ h => h) (Or.inl ⟨by rfl, ?_⟩) ?_ ?_
    rotate_left
    · intro w'
      go_simp
      with_reducible rfl
    rotate_left
    · simp only [Act.put, List.setIfInBounds_toArray, List.set_cons_zero, List.set_cons_succ, i64_w, i32_w]
      rfl
    obtain ⟨t43, h43⟩ : ∃ r, r = ofT (Dig.start0 (tx a0) idx x.val) := ⟨_, rfl⟩
    obtain ⟨t45, h45⟩ : ∃ r, r = sigAt (tx a0) idx (tx msg) x.val := ⟨_, rfl⟩
    have hf1 : seal_start.f a0 idx x.val = some t43 := by
      have := x.isLt
      unfold seal_start.f
      rw [if_pos ⟨hs, ⟨by omega, by omega⟩, ⟨by omega, by omega⟩⟩, h43]; rfl
    have hf2 : seal_chain.f t43 (dAt (tx msg) x.val) = some t45 := by
      rw [h43, h45, sChain _ _ (start_big _ _ _) (Nat.le_trans (dAt_le _ _) (by decide))]; rfl
    have Hr := Aside0.mk h45
    have F1 := Aside0.mk hf1
    have F2 := Aside0.mk hf2
    clear hf1 hf2 h43 h45
    have hbd : Below w.heap.size w Wd := by rw [← hWd]; exact hB.drew
    refine one_ (i := 5) (N := some 43) #[true, true, true, true, true, true, true, false, false, false, false, false] rfl rfl (one_of rfl (by kernel_rfl)) (by decide) (fun K hK => ?_)
    refine goes_ Tryd.func54 (by kernel_rfl) rfl #[.string a0, .int .i64 idx, .int .i64 x.val] (by rfl) rfl rfl (by (try simp only [List.map_toArray, List.map_cons, List.map_nil]); first | done | rfl) ?_
    refine (seal_start.calls _ _ _ t43 Wd F1.out (Glob.below hG hbd)).mono ?_
    rintro e W1 ⟨rfl, hb⟩
    refine ⟨_, rfl, ?_⟩
    have hgd : Wd.grownBy W1 none := ⟨hb.os, hb.tape, hb.output, hb.size, fun k hk _ => hb.block k hk⟩
    have bv : W1.heap[w.heap.size + 1 + 1 + 1]? = some (.cells #[.int .i64 idx, v, .slice none 0 0] 35 (0, 0)) := blk_below (by rw [← hWd]; exact hv) hb
    have brow : W1.ownsRow W0.heap.size 9 1 v pre.length (pre.map fun j => Value.string (sigAt (tx a0) idx (tx msg) j.val)) := World.ownsRow.kept (w := Wd) (by rw [← hWd]; exact hrow.drew) hgd (Classical.em _)
    have bs1 : Boxed W1 w.heap.size 9 (.string a0) := Boxed.kept (W := Wd) (by rw [← hWd]; exact hbs) hgd (by simp)
    have bi1 : Boxed W1 (w.heap.size + 1) 3 (.int .i64 idx) := Boxed.kept (W := Wd) (by rw [← hWd]; exact hbi) hgd (by simp)
    have br1 : W1.heap[w.heap.size + 1 + 1]? = some (.cells #[.int .i64 0, .slice none 0 0, .slice none 0 0] 35 (0, 0)) := blk_below (by rw [← hWd]; exact hbr) hb
    have hB1 : Below w.heap.size w W1 := hbd.trans (hb.mono hbd.size)
    have k1 : KeepsOthers W W1 := KeepsOthers.of_grownBy (row := none) (by rw [← hWd] at hgd; exact ⟨hgd.os, hgd.tape, hgd.output, hgd.size, hgd.block⟩) (fun j o ej _ => by cases ej)
    refine hK.out _ _ ⟨(blk_cell bv 1).trans rfl, bs1.cell, bi1.cell⟩ (fun hHeld => ?_)
    clear hK K
    refine norm_ (a' := ?_) ?_ ?_
    rotate_left
    · show Act.put _ (some 43) _ = _
      simp only [Act.put, List.setIfInBounds_toArray, List.set_cons_zero, List.set_cons_succ, i64_w, i32_w]
      rfl
    refine one_ (i := 7) (N := some 45) #[true, true, true, true, true, true, true, true, false, false, false, false] rfl rfl (one_of rfl (by kernel_rfl)) (by decide) (fun K hK => ?_)
    refine goes_ Tryd.func53 (by kernel_rfl) rfl #[.string t43, .int .i64 (dAt (tx msg) x.val)] (by rfl) rfl rfl (by (try simp only [List.map_toArray, List.map_cons, List.map_nil]); first | done | rfl) ?_
    refine (seal_chain.calls _ _ t45 W1 F2.out).mono ?_
    rintro e W2 ⟨rfl, hb2⟩
    refine ⟨_, rfl, ?_⟩
    have hgd2 : W1.grownBy W2 none := ⟨hb2.os, hb2.tape, hb2.output, hb2.size, fun k hk _ => hb2.block k hk⟩
    replace bv := blk_below bv hb2
    replace brow := brow.kept hgd2 (Classical.em _)
    replace bs1 := bs1.kept hgd2 (by simp)
    replace bi1 := bi1.kept hgd2 (by simp)
    replace br1 := blk_below br1 hb2
    replace hB1 := hB1.trans (hb2.mono hB1.size)
    replace k1 := k1.trans (KeepsOthers.of_grownBy (row := none) hgd2 (fun j o ej _ => by cases ej))
    have hN2 : W0.heap.size ≤ W2.heap.size := Nat.le_trans hN k1.size
    clear hgd hgd2 hb hb2
    refine hK.out _ _ ⟨(blk_cell bv 1).trans rfl, bs1.cell, bi1.cell⟩ (fun hHeld => ?_)
    clear hK K
    refine norm_ (a' := ?_) ?_ ?_
    rotate_left
    · show Act.put _ (some 45) _ = _
      simp only [Act.put, List.setIfInBounds_toArray, List.set_cons_zero, List.set_cons_succ, i64_w, i32_w]
      rfl
    refine one_ (i := 8) (N := some 46) #[true, true, true, true, true, true, true, true, true, false, false, false] rfl rfl (one_of rfl (by kernel_rfl)) (by decide) (fun K hK => ?_)
    refine value_ (w1 := ?_) (v := ?_) (by rfl) rfl ?_ ?_
    rotate_left 2
    · go_simp
      constructor
      · rfl
      · rfl
    refine hK.out _ _ ⟨(blk_cell (blk_alloc bv _) 1).trans rfl, (bs1.alloc _).cell, (bi1.alloc _).cell⟩ (fun hHeld => ?_)
    clear hK K
    refine norm_ (a' := ?_) ?_ ?_
    rotate_left
    · show Act.put _ (some 46) _ = _
      simp only [Act.put, List.setIfInBounds_toArray, List.set_cons_zero, List.set_cons_succ, i64_w, i32_w]
      rfl
    refine last_ (i := 9) (N := some 47) #[true, true, true, true, true, true, true, true, true, true, false, false] rfl rfl (one_of rfl (by kernel_rfl)) (by decide) (fun K hK => ?_)
    refine step_append_cells (w0 := W2) W0.heap.size ?hwant (.tmp 39) (.tmp 46) 22 9 (.string ⟨#[]⟩) 1 16 ?hop Tryd.underlying22 PCb.info9 rfl (by decide) (by omega) v pre.length _ [.string t45] ?hsv ?hxv rfl (by simp [Value.oneCell']) brow (Below.refl _ _) hN2 (by omega) ?_
    (case hop => rfl)
    (case hwant => rfl)
    (case hsv => rfl)
    (case hxv => rfl)
    intro v1 w2 hown2 hb2 hg2 hat2
    obtain ⟨g', cap', rfl⟩ := ownsRow_succ hown2
    refine hK.out _ _ ?_
    clear hK K
    refine norm_ (a' := ?_) ?_ ?_
    rotate_left
    · show Act.put _ (some 47) _ = _
      simp only [Act.put, List.setIfInBounds_toArray, List.set_cons_zero, List.set_cons_succ, i64_w, i32_w]
      rfl
    have hlt2 : w.heap.size + 1 + 1 + 1 < W0.heap.size := by omega
    have bv2 := blk_grown bv hg2 (row_ne brow (by omega))
    have br2 := blk_grown br1 hg2 (row_ne brow (by omega))
    have bs2 := bs1.kept hg2 (row_ne brow (by omega))
    have bi2 := bi1.kept hg2 (row_ne brow (by omega))
    have hs2 : w2.cell? ⟨w.heap.size + 1 + 1 + 1, 1, none⟩ = some v := (blk_cell bv2 1).trans rfl
    have hf2 := blk_frozen bv2 1
    refine pure_ (i := 10) (N := some 48) (v := ?_) (a' := ?_) #[true, true, true, true, true, true, true, true, true, true, true, false] rfl rfl (any_of rfl (by kernel_rfl)) (fun _ _ _ h => h) (Or.inl ⟨by rfl, ?_⟩) ?_ ?_
    rotate_left
    · intro w'
      go_simp
      with_reducible rfl
    rotate_left
    · simp only [Act.put, List.setIfInBounds_toArray, List.set_cons_zero, List.set_cons_succ, i64_w, i32_w]
      rfl
    refine last_ (i := 11) (N := none) #[true, true, true, true, true, true, true, true, true, true, true, true] rfl rfl (one_of rfl (by kernel_rfl)) (by decide) (fun K hK => ?_)
    refine skip_ (w1 := ?_) (by rfl) rfl ?_ ?_
    rotate_left
    · go_simp
      rfl
    refine hK.out _ _ ?_
    clear hK K
    refine done_ (done_of rfl (by kernel_rfl)) ?_
    clear hs2 hf2
    have hown3 := hown2.kept (grownBy_setCellI w2 (w.heap.size + 1 + 1 + 1) 1 (.slice (some ⟨g', 0, none⟩) (pre.length + 1) cap')) (.inr (row_ne hown2 (by omega)).symm)
    have k2 : KeepsOthers W2 w2 := KeepsOthers.of_grownBy hg2 fun j o ej hj => by
      rcases brow.2 with ⟨rfl, _⟩ | ⟨g, cap, cur, rfl, _, hgb, _⟩
      · simp [Value.ownBlock] at ej
      · obtain rfl : j = g := by simpa [Value.ownBlock] using ej.symm
        rw [hgb] at hj; cases hj; rfl
    have k3 := (k1.trans k2).trans (KeepsOthers.setCell w2 ⟨w.heap.size + 1 + 1 + 1, 1, none⟩ (.slice (some ⟨g', 0, none⟩) (pre.length + 1) cap'))
    have hB3 : Below w.heap.size w (w2.setCell ⟨w.heap.size + 1 + 1 + 1, 1, none⟩ (.slice (some ⟨g', 0, none⟩) (pre.length + 1) cap')) := (hB1.trans (hb2.mono (by omega))).setCell (p := ⟨w.heap.size + 1 + 1 + 1, 1, none⟩) (by show w.heap.size ≤ w.heap.size + 1 + 1 + 1; omega) _
    refine ⟨k3.from _, trivial, ⟨⟨_, blk_put (cs' := #[.int .i64 idx, .slice (some ⟨g', 0, none⟩) (pre.length + 1) cap', .slice none 0 0]) bv2 1 _ rfl, ?_⟩, ?_, ?_⟩, ?_, hB3, Nat.le_trans hN k3.size⟩
    · rw [List.length_append, List.map_append, List.map_cons, List.map_nil, ← Hr.out]
      exact hown3
    · exact bs2.kept (grownBy_setCellI w2 (w.heap.size + 1 + 1 + 1) 1 _) (fun e => by injection e with e; omega)
    · exact bi2.kept (grownBy_setCellI w2 (w.heap.size + 1 + 1 + 1) 1 _) (fun e => by injection e with e; omega)
    · exact blk_far br2 (p := ⟨w.heap.size + 1 + 1 + 1, 1, none⟩) (by show w.heap.size + 1 + 1 ≠ w.heap.size + 1 + 1 + 1; omega) _
  case done =>
    rintro D ys W hD rfl ⟨⟨⟨v, hv, hrow⟩, hbs, hbi⟩, hbr, hB, hN⟩ hK
    gi_wp2
    refine wp_mono ?_ (noPanic_le _)
    go_wp2
    rw [List.length_finRange] at hrow
    have hV0 : Kd.R Kd.string 9 W W0.heap.size (fun k => W0.heap.size ≤ k ∧ k < W.heap.size) v (sigL (tx a0) idx (tx msg)) := by
      have e : encs Value.string (sigL (tx a0) idx (tx msg)) = (List.finRange 18).map fun j => Value.string (sigAt (tx a0) idx (tx msg) j.val) := by unfold encs sigL; rw [List.map_map]; rfl
      refine Kd.R_mono (Kd.R_bound (Kd.R_of_own (ok := fun _ => True) ?_ (fun _ _ => trivial))) (fun k hk => ⟨hk.2.1, hk.2.2.1⟩)
      rw [e, sigL_len]
      exact hrow
    clear hrow hst o1 o2 o3 o4 o5 o6 bM bO bR bS bI
    refine start_ (n := 6) (S := fun w' => w'.cell? ⟨w.heap.size, 0, none⟩ = some (.string a0) ∧ w'.cell? ⟨w.heap.size + 1, 0, none⟩ = some (.int .i64 idx)) (ds := []) #[false, false, false, false, false, false] (by kernel_rfl) rfl rfl ⟨hbs.cell, hbi.cell⟩ (fun hHeld => ?_)
    obtain ⟨Wd, hWd⟩ : ∃ Wd, Wd = W.drew := ⟨_, rfl⟩
    rw [← hWd] at hHeld ⊢
    have hV : Kd.R Kd.string 9 Wd W0.heap.size (fun k => W0.heap.size ≤ k ∧ k < W.heap.size) v (sigL (tx a0) idx (tx msg)) := by rw [hWd]; exact Kd.R_drew hV0
    have gO : Wd.heap[w.heap.size + 1 + 1 + 1]? = some (.cells #[.int .i64 idx, v, .slice none 0 0] 35 (0, 0)) := by rw [hWd]; exact hv
    have gR : Wd.heap[w.heap.size + 1 + 1]? = some (.cells #[.int .i64 0, .slice none 0 0, .slice none 0 0] 35 (0, 0)) := by rw [hWd]; exact hbr
    have gD : Wd.heap[D]? = some (.deferred (some [])) := by rw [hWd]; exact hK
    have hBd : Below w.heap.size w Wd := by rw [hWd]; exact hB.drew
    have hNd : W0.heap.size ≤ Wd.heap.size := by rw [hWd]; exact hN
    have hsW : W.heap.size = Wd.heap.size := by rw [hWd]; rfl
    rw [hsW] at hV
    have hDlt := blk_lt gD
    clear hV0 hv hbr hK hB hN hWd hbs hbi hsW
    refine take_ (i := 0) (N := some 49) (v := ?_) (a' := ?_) #[true, false, false, false, false, false] rfl rfl (take_of rfl (by kernel_rfl)) (fun _ _ _ h => h) (Or.inl ⟨by rfl, ?_⟩) hHeld ?_ ?_
    rotate_left
    · rintro w' ⟨s0, s1⟩
      go_simp
      with_reducible rfl
    rotate_left
    · simp only [Act.put, List.setIfInBounds_toArray, List.set_cons_zero, List.set_cons_succ, i64_w, i32_w]
      rfl
    refine pure_ (i := 1) (N := some 50) (v := ?_) (a' := ?_) #[true, true, false, false, false, false] rfl rfl (any_of rfl (by kernel_rfl)) (fun _ _ _ h => h) (Or.inl ⟨by rfl, ?_⟩) ?_ ?_
    rotate_left
    · intro w'
      go_simp
      with_reducible rfl
    rotate_left
    · simp only [Act.put, List.setIfInBounds_toArray, List.set_cons_zero, List.set_cons_succ, i64_w, i32_w]
      rfl
    refine take_ (i := 3) (N := some 52) (v := ?_) (a' := ?_) #[true, true, false, true, false, false] rfl rfl (take_of rfl (by kernel_rfl)) (fun _ _ _ h => h) (Or.inl ⟨by rfl, ?_⟩) hHeld ?_ ?_
    rotate_left
    · rintro w' ⟨s0, s1⟩
      go_simp
      with_reducible rfl
    rotate_left
    · simp only [Act.put, List.setIfInBounds_toArray, List.set_cons_zero, List.set_cons_succ, i64_w, i32_w]
      rfl
    refine one_ (i := 2) (N := some 51) #[true, true, true, true, false, false] rfl rfl (one_of rfl (by kernel_rfl)) (by decide) (fun K hK => ?_)
    refine goes_ Tryd.func48 (by kernel_rfl) rfl #[.string a0, .int .i64 hgt] (by rfl) rfl rfl (by (try simp only [List.map_toArray, List.map_cons, List.map_nil]); first | done | rfl) ?_
    refine (keys_calls a0 hgt Wd hs (by omega) (Glob.below hG hBd)).mono ?_
    rintro e W1 ⟨vl, rfl, hL, hb⟩
    refine ⟨_, rfl, ?_⟩
    replace gO := blk_below gO hb
    replace gR := blk_below gR hb
    replace gD := blk_below gD hb
    replace hV := Kd.R_below hV hb
    replace hBd := hBd.trans (hb.mono hBd.size)
    have hN1 := Nat.le_trans hNd hb.size
    have hlev := Kd.R_mono (Kd.R_bound hL) (ok' := fun k => Wd.heap.size ≤ k ∧ k < W1.heap.size) (fun k hk => ⟨hk.2.1, hk.2.2.1⟩)
    have hs1 := hb.size
    refine hK.out _ _ ⟨(hb.cell (World.block_lt_of_cell? _ _ hHeld.1)).trans hHeld.1, (hb.cell (World.block_lt_of_cell? _ _ hHeld.2)).trans hHeld.2⟩ (fun hHeld1 => ?_)
    clear hHeld
    have hHeld := hHeld1
    clear hHeld1
    clear hK K
    refine norm_ (a' := ?_) ?_ ?_
    rotate_left
    · show Act.put _ (some 51) _ = _
      simp only [Act.put, List.setIfInBounds_toArray, List.set_cons_zero, List.set_cons_succ, i64_w, i32_w]
      rfl
    refine pure_ (i := 4) (N := some 13) (v := ?_) (a' := ?_) #[true, true, true, true, true, false] rfl rfl (any_of rfl (by kernel_rfl)) (fun _ _ _ h => h) (Or.inl ⟨by rfl, ?_⟩) ?_ ?_
    rotate_left
    · intro w'
      go_simp
      with_reducible rfl
    rotate_left
    · simp only [Act.put, List.setIfInBounds_toArray, List.set_cons_zero, List.set_cons_succ, i64_w, i32_w]
      rfl
    refine pure_ (i := 5) (N := some 14) (v := ?_) (a' := ?_) #[true, true, true, true, true, true] rfl rfl (any_of rfl (by kernel_rfl)) (fun _ _ _ h => h) (Or.inl ⟨by rfl, ?_⟩) ?_ ?_
    rotate_left
    · intro w'
      go_simp
      with_reducible rfl
    rotate_left
    · simp only [Act.put, List.setIfInBounds_toArray, List.set_cons_zero, List.set_cons_succ, i64_w, i32_w]
      rfl
    refine done_ (done_of rfl (by kernel_rfl)) ?_
    clear hL hb
    obtain ⟨N0, hN0⟩ : ∃ N0, N0 = W0.heap.size := ⟨_, rfl⟩
    rw [← hN0] at hV hN1 hNd
    obtain ⟨N1, hN1'⟩ : ∃ N1, N1 = W1.heap.size := ⟨_, rfl⟩
    have hgN : w.heap.size + 5 = N0 := by omega
    have hN01 : N0 ≤ N1 := by omega
    have hDN : D < N1 := by omega
    have hDN0 : N0 ≤ D := by omega
    have hL0 : SignLoop a0 hgt idx msg w D N0 N1 v vl (.int .i64 idx) W1 := by
      refine ⟨0, .slice none 0 0, Nat.zero_le _, by simp, ?_, Kd.R_nil _ _ _ _ _, gO, gR, gD, Kd.R_mono hV (fun k hk => ⟨hk.1, by omega⟩), hBd, by omega⟩
      exact Kd.R_mono (Kd.R_lower hlev (by omega)) (fun k hk => ⟨by omega, by simp [Value.ownBlock]⟩)
    clear hlev gO gR gD hV hBd hDlt hs1 hHeld hN1 hsz hB0 hD hNd hN0 hN1'
    go_wp2
    go_loopw [13, 14] (fun l i wr => SignLoop a0 hgt idx msg w D N0 N1 v l i wr) (fun l _ _ => lenV l)
    case atStart => exact hL0
    case round =>
      clear hL0
      obtain ⟨j, u, hj, rfl, hL, hU, gO, gR, gD, hV, hB, hN⟩ := hrel
      obtain ⟨Al, Ac, rfl⟩ := Kd.R_slice hL
      have hlen := lvl_len (tx a0) (2 ^ (hgt - j)) j
      have hLC := (Kd.R_reads' hL).2
      rw [hlen] at hLC hL ⊢
      have hLL := lvl_size (tx a0) (2 ^ (hgt - j)) j
      by_cases hjh : j < hgt
      · obtain ⟨m, hm2⟩ : ∃ m, 2 ^ (hgt - j) = 2 * m := ⟨2 ^ (hgt - j - 1), by rw [show hgt - j = hgt - j - 1 + 1 by omega, Nat.pow_succ, Nat.mul_comm]; rfl⟩
        have hx0 : idx / 2 ^ j < 2 ^ (hgt - j) := by
          rw [Nat.div_lt_iff_lt_mul (Nat.two_pow_pos j), ← Nat.pow_add, show hgt - j + j = hgt by omega, hP]; exact hi
        have hs0 : Dig.sib (idx / 2 ^ j) < 2 * m := sib_lt (by rw [← hm2]; exact hx0)
        obtain ⟨x, hx⟩ : ∃ x, idx / 2 ^ j = x := ⟨_, rfl⟩
        obtain ⟨sx, hsx⟩ : ∃ sx, Dig.sib x = sx := ⟨_, rfl⟩
        have hp9 : 2 * m ≤ 256 := by rw [← hm2]; exact Nat.le_trans (pow_le (show hgt - j ≤ 8 by omega)) (by decide)
        rw [hx, hsx] at hs0
        rw [hx] at hx0 ⊢
        obtain ⟨n, hn⟩ : ∃ n, n = 2 * m := ⟨_, rfl⟩
        rw [← hn] at hm2 hs0 hp9
        rw [hm2] at hx0 hL hLC hlen hLL ⊢
        obtain ⟨al, rfl, hcell⟩ := Kd.at_string hLC.2 (sx : Int) (by omega) (by omega)
        rw [Int.toNat_natCast] at hcell
        have hX : bits .xor .i64 (x : Int) 1 = (sx : Int) := by rw [xor_sib x (by omega), hsx]
        have hq0 : ((0 : Int) ≤ (sx : Int)) = True := eq_true (by omega)
        have hq1 : ((sx : Int) < (n : Int)) = True := eq_true (by omega)
        have HX := Lib.hid (And.intro hx (And.intro hsx (And.intro hm2 (And.intro hn (And.intro hlen (And.intro hLL hLC.1))))))
        have d1 : decide ((1 : Int) < (n : Int)) = true := decide_eq_true (by omega)
        have hsz5 : w.heap.size + 5 ≤ N0 := by omega
        clear hx hsx hn hm2 hlen hLL hP hpow hgN
        go_wp2
        clear d1
        have hb2 : (al.add sx).block < wr.heap.size := World.block_lt_of_cell? _ _ hcell
        refine start_ (n := 11) (S := fun w' => w'.cell? ⟨w.heap.size + 1 + 1 + 1, 2, none⟩ = some u ∧ w'.cell? (al.add sx) = some (.string (rdOf ByteArray.empty (lvl (tx a0) n j) (sx : Int)))) (ds := [8, 10]) #[false, false, false, false, false, false, false, false, false, false, false] (by kernel_rfl) rfl rfl ⟨(blk_cell gO 2).trans rfl, hcell⟩ (fun hHeld => ?_)
        generalize ht66 : rdOf ByteArray.empty (lvl (tx a0) n j) (sx : Int) = t66 at hHeld ⊢
        have HT66 := Lib.hid ht66
        clear ht66 hcell
        obtain ⟨Wd, hWd⟩ : ∃ Wd, Wd = wr.drew := ⟨_, rfl⟩
        rw [← hWd] at hHeld ⊢
        have hLd : Kd.R Kd.string 9 Wd N0 (fun k => N0 ≤ k ∧ some k ≠ u.ownBlock) (.slice (some al) n Ac) (lvl (tx a0) n j) := by rw [hWd]; exact Kd.R_drew hL
        replace hU : Kd.R Kd.string 9 Wd N1 (fun k => N1 ≤ k) u (pathL (tx a0) idx j) := by rw [hWd]; exact Kd.R_drew hU
        replace hV : Kd.R Kd.string 9 Wd N0 (fun k => N0 ≤ k ∧ k < N1) v (sigL (tx a0) idx (tx msg)) := by rw [hWd]; exact Kd.R_drew hV
        replace gO : Wd.heap[w.heap.size + 1 + 1 + 1]? = some (.cells #[.int .i64 idx, v, u] 35 (0, 0)) := by rw [hWd]; exact gO
        replace gR : Wd.heap[w.heap.size + 1 + 1]? = some (.cells #[.int .i64 0, .slice none 0 0, .slice none 0 0] 35 (0, 0)) := by rw [hWd]; exact gR
        replace gD : Wd.heap[D]? = some (.deferred (some [])) := by rw [hWd]; exact gD
        replace hB : Below w.heap.size w Wd := by rw [hWd]; exact hB.drew
        replace hN : N1 ≤ Wd.heap.size := by rw [hWd]; exact hN
        clear hL hLC hWd hb2
        refine pure_ (i := 0) (N := some 60) (v := ?_) (a' := ?_) #[true, false, false, false, false, false, false, false, false, false, false] rfl rfl (any_of rfl (by kernel_rfl)) (fun _ _ _ h => h) (Or.inl ⟨by rfl, ?_⟩) ?_ ?_
        rotate_left
        · intro w'
          go_simp
          with_reducible rfl
        rotate_left
        · simp only [Act.put, List.setIfInBounds_toArray, List.set_cons_zero, List.set_cons_succ, i64_w, i32_w]
          rfl
        refine take_ (i := 1) (N := some 61) (v := ?_) (a' := ?_) #[true, true, false, false, false, false, false, false, false, false, false] rfl rfl (take_of rfl (by kernel_rfl)) (fun _ _ _ h => h) (Or.inl ⟨by rfl, ?_⟩) hHeld ?_ ?_
        rotate_left
        · rintro w' ⟨s0, s1⟩
          go_simp
          with_reducible rfl
        rotate_left
        · simp only [Act.put, List.setIfInBounds_toArray, List.set_cons_zero, List.set_cons_succ, i64_w, i32_w]
          rfl
        refine pure_ (i := 2) (N := some 62) (v := ?_) (a' := ?_) #[true, true, true, false, false, false, false, false, false, false, false] rfl rfl (any_of rfl (by kernel_rfl)) (fun _ _ _ h => h) (Or.inl ⟨by rfl, ?_⟩) ?_ ?_
        rotate_left
        · intro w'
          go_simp
          with_reducible rfl
        rotate_left
        · simp only [Act.put, List.setIfInBounds_toArray, List.set_cons_zero, List.set_cons_succ, i64_w, i32_w]
          rfl
        refine pure_ (i := 3) (N := some 63) (v := ?_) (a' := ?_) #[true, true, true, true, false, false, false, false, false, false, false] rfl rfl (any_of rfl (by kernel_rfl)) (fun _ _ _ h => h) (Or.inl ⟨by rfl, ?_⟩) ?_ ?_
        rotate_left
        · intro w'
          go_simp
          with_reducible rfl
        rotate_left
        · simp only [Act.put, List.setIfInBounds_toArray, List.set_cons_zero, List.set_cons_succ, i64_w, i32_w]
          rfl
        refine pure_ (i := 4) (N := some 64) (v := .int .i64 sx) (a' := ?_) #[true, true, true, true, true, false, false, false, false, false, false] rfl rfl (any_of rfl (by kernel_rfl)) (fun _ _ _ h => h) (Or.inl ⟨by rfl, ?_⟩) ?_ ?_
        · intro w'
          go_simp
        rotate_left
        · simp only [Act.put, List.setIfInBounds_toArray, List.set_cons_zero, List.set_cons_succ, i64_w, i32_w]
          rfl
        clear hX
        refine pure_ (i := 5) (N := some 65) (v := ?_) (a' := ?_) #[true, true, true, true, true, true, false, false, false, false, false] rfl rfl (any_of rfl (by kernel_rfl)) (fun _ _ _ h => h) (Or.inl ⟨by rfl, ?_⟩) ?_ ?_
        rotate_left
        · intro w'
          go_simp
          with_reducible rfl
        rotate_left
        · simp only [Act.put, List.setIfInBounds_toArray, List.set_cons_zero, List.set_cons_succ, i64_w, i32_w]
          rfl
        refine take_ (i := 6) (N := some 66) (v := ?_) (a' := ?_) #[true, true, true, true, true, true, true, false, false, false, false] rfl rfl (take_of rfl (by kernel_rfl)) (fun _ _ _ h => h) (Or.inl ⟨by rfl, ?_⟩) hHeld ?_ ?_
        rotate_left
        · rintro w' ⟨s0, s1⟩
          go_simp
          with_reducible rfl
        rotate_left
        · simp only [Act.put, List.setIfInBounds_toArray, List.set_cons_zero, List.set_cons_succ, i64_w, i32_w]
          rfl
        refine one_ (i := 7) (N := some 67) #[true, true, true, true, true, true, true, true, false, false, false] rfl rfl (one_of rfl (by kernel_rfl)) (by decide) (fun K hK => ?_)
        refine value_ (w1 := ?_) (v := ?_) (by rfl) rfl ?_ ?_
        rotate_left 2
        · go_simp
          constructor
          · rfl
          · rfl
        refine hK.out _ _ ⟨(blk_cell (blk_alloc gO _) 2).trans rfl, (World.cell?_alloc_lt _ _ _ (World.block_lt_of_cell? _ _ hHeld.2)).trans hHeld.2⟩ (fun hHeld1 => ?_)
        clear hHeld
        clear hK K
        refine norm_ (a' := ?_) ?_ ?_
        rotate_left
        · show Act.put _ (some 67) _ = _
          simp only [Act.put, List.setIfInBounds_toArray, List.set_cons_zero, List.set_cons_succ, i64_w, i32_w]
          rfl
        refine last_ (i := 8) (N := some 68) #[true, true, true, true, true, true, true, true, true, false, false] rfl rfl (one_of rfl (by kernel_rfl)) (by decide) (fun K hK => ?_)
        have hpl : (pathL (tx a0) idx j).length ≤ 8 := by rw [pathL_len]; omega
        refine Kd.R_append_step Kd.string (w0 := Wd) N1 (by rfl) (.tmp 61) (.tmp 67) 22 9 (.string ⟨#[]⟩) 16 rfl Tryd.underlying22 PCb.info9 rfl (by decide) (by omega) u (pathL (tx a0) idx j) t66 [.string t66] (fun k => N1 ≤ k) (fun _ => False) rfl rfl ?aP (fun _ hk => hk.elim) ?aF ?aO ?aB ?aS ?aL ?_
        (case aP => exact rfl)
        (case aB => exact (Below.refl _ _))
        (case aF => exact (fun k hk => Nat.le_trans hN hk))
        (case aO => exact hU)
        (case aS => exact hN)
        (case aL => omega)
        intro u1 w2 hU1 hb2 hg2 hat2
        have hL2 := Kd.R_after hLd hg2 hat2
        have hune : ∀ k, k < N1 → some k ≠ u.ownBlock := fun k hk e => by have := Kd.R_base hU k e.symm; omega
        have gO2 := blk_grown gO hg2 (hune _ (by omega))
        have gR2 := blk_grown gR hg2 (hune _ (by omega))
        have gD2 := blk_grown gD hg2 (hune _ hDN)
        have hV2 := Kd.R_grown hV hg2 (fun k hk => hune k hk.2)
        have hB2 : Below w.heap.size w w2 := hB.trans (hb2.mono (by omega))
        have hN2 : N1 ≤ w2.heap.size := Nat.le_trans hN hg2.size
        obtain ⟨Au, Acu, rfl⟩ := Kd.R_slice hU1
        have hpl1 : (pathL (tx a0) idx j ++ [t66]).length = j + 1 := by rw [List.length_append, pathL_len]; rfl
        rw [hpl1] at hU1 ⊢
        clear hpl1 hpl
        clear hLd gO gR gD hV hB hN hg2 hat2 hb2 hU hune hHeld1
        refine hK.out _ _ ?_
        clear hK K
        refine norm_ (a' := ?_) ?_ ?_
        rotate_left
        · show Act.put _ (some 68) _ = _
          simp only [Act.put, List.setIfInBounds_toArray, List.set_cons_zero, List.set_cons_succ, i64_w, i32_w]
          rfl
        refine pure_ (i := 9) (N := some 69) (v := ?_) (a' := ?_) #[true, true, true, true, true, true, true, true, true, true, false] rfl rfl (any_of rfl (by kernel_rfl)) (fun _ _ _ h => h) (Or.inl ⟨by rfl, ?_⟩) ?_ ?_
        rotate_left
        · intro w'
          go_simp
          with_reducible rfl
        rotate_left
        · simp only [Act.put, List.setIfInBounds_toArray, List.set_cons_zero, List.set_cons_succ, i64_w, i32_w]
          rfl
        refine last_ (i := 10) (N := none) #[true, true, true, true, true, true, true, true, true, true, true] rfl rfl (one_of rfl (by kernel_rfl)) (by decide) (fun K hK => ?_)
        have hs2 : w2.cell? ⟨w.heap.size + 1 + 1 + 1, 2, none⟩ = some u := (blk_cell gO2 2).trans rfl
        have hf2 := blk_frozen gO2 2
        refine skip_ (w1 := ?_) (by rfl) rfl ?_ ?_
        rotate_left
        · go_simp
          rfl
        refine hK.out _ _ ?_
        clear hK K
        refine done_ (done_of rfl (by kernel_rfl)) ?_
        clear hs2 hf2
        have hL3 := Kd.R_far hL2 (p := ⟨w.heap.size + 1 + 1 + 1, 2, none⟩) (fun k hk e => by have := hk.1; have e' : k = w.heap.size + 1 + 1 + 1 := e; omega) (.slice Au (j + 1) Acu)
        have hU3 := Kd.R_far hU1 (p := ⟨w.heap.size + 1 + 1 + 1, 2, none⟩) (fun k hk e => by have e' : k = w.heap.size + 1 + 1 + 1 := e; omega) (.slice Au (j + 1) Acu)
        have hV3 := Kd.R_far hV2 (p := ⟨w.heap.size + 1 + 1 + 1, 2, none⟩) (fun k hk e => by have := hk.1; have e' : k = w.heap.size + 1 + 1 + 1 := e; omega) (.slice Au (j + 1) Acu)
        have gO3 := blk_put (cs' := #[.int .i64 idx, v, .slice Au (j + 1) Acu]) gO2 2 (.slice Au (j + 1) Acu) rfl
        have gR3 := blk_far gR2 (p := ⟨w.heap.size + 1 + 1 + 1, 2, none⟩) (by show w.heap.size + 1 + 1 ≠ w.heap.size + 1 + 1 + 1; omega) (.slice Au (j + 1) Acu)
        have gD3 := (Below.heap_setCell w2 ⟨w.heap.size + 1 + 1 + 1, 2, none⟩ (.slice Au (j + 1) Acu) D (by show D ≠ w.heap.size + 1 + 1 + 1; omega)).trans gD2
        have hB3 := hB2.setCell (p := ⟨w.heap.size + 1 + 1 + 1, 2, none⟩) (by show w.heap.size ≤ w.heap.size + 1 + 1 + 1; omega) (.slice Au (j + 1) Acu)
        have hN3 : N1 ≤ (w2.setCell ⟨w.heap.size + 1 + 1 + 1, 2, none⟩ (.slice Au (j + 1) Acu)).heap.size := Nat.le_trans hN2 (KeepsWalks.setCell _ _ _).size
        clear hL2 hU1 hV2 gO2 gR2 gD2 hB2 hN2
        generalize w2.setCell ⟨w.heap.size + 1 + 1 + 1, 2, none⟩ (.slice Au (j + 1) Acu) = W3 at *
        have HA := Lib.hid (above_lvl (tx a0) al Ac n m j W3 hL3 HX.out.2.2.2.1 (by have := HX.out.2.2.2.1; omega) (by have := HX.out.2.2.2.1; omega) (Glob.below hG hB3))
        go_wp2_with (go_at_call 49; refine HA.out.mono ?_; rintro e w4 ⟨v4, rfl, hL4, hb4⟩)
        clear HA
        obtain ⟨hx, hsx, hm2, hn, hlen, hLL, hLC⟩ := HX.out
        have hp1 : pathL (tx a0) idx j ++ [t66] = pathL (tx a0) idx (j + 1) := by
          rw [← HT66.out]
          unfold rdOf pathL
          rw [Int.toNat_natCast, lvl_get _ _ _ _ hs0, List.range_succ, List.map_append, ← hsx, ← hx]; rfl
        have hm3 : 2 ^ (hgt - (j + 1)) = m := by
          have e : 2 ^ (hgt - j) = 2 * 2 ^ (hgt - (j + 1)) := by rw [show hgt - j = hgt - (j + 1) + 1 by omega, Nat.pow_succ, Nat.mul_comm]
          omega
        rw [hp1] at hU3
        have hU4 := Kd.R_below hU3 hb4
        refine ⟨⟨j + 1, .slice Au (j + 1) Acu, by omega, ?_, ?_, hU4, blk_below gO3 hb4, blk_below gR3 hb4, blk_below gD3 hb4, Kd.R_below hV3 hb4, hB3.trans (hb4.mono (by have := hB3.size; omega)), Nat.le_trans hN3 hb4.size⟩, ?_⟩
        · rw [Nat.pow_succ, ← Nat.div_div_eq_div_mul, hx]; rfl
        · rw [hm3]
          refine Kd.R_mono (Kd.R_lower (Kd.R_bound hL4) (by omega)) (fun k hk => ⟨by omega, fun e => ?_⟩)
          have := Kd.R_lt hU3 k e.symm
          omega
        · obtain ⟨A4, c4, rfl⟩ := Kd.R_slice hL4
          show (lvl (tx a0) m (j + 1)).length < n
          rw [lvl_len]; omega
      · obtain rfl : j = hgt := by omega
        have h1 : 2 ^ (j - j) = 1 := by rw [Nat.sub_self]
        rw [h1] at hL hLC hlen hLL ⊢
        clear hP hpow h1 hLL hlen hi hp2
        obtain ⟨Au, Acu, rfl⟩ := Kd.R_slice hU
        obtain ⟨Av, Acv, rfl⟩ := Kd.R_slice hV
        have hc0 : wr.cell? ⟨w.heap.size + 1 + 1 + 1, 0, none⟩ = some (.int .i64 idx) := (blk_cell gO 0).trans rfl
        have hc1 : wr.cell? ⟨w.heap.size + 1 + 1 + 1, 1, none⟩ = some (.slice Av (sigL (tx a0) idx (tx msg)).length Acv) := (blk_cell gO 1).trans rfl
        have hc2 : wr.cell? ⟨w.heap.size + 1 + 1 + 1, 2, none⟩ = some (.slice Au (pathL (tx a0) idx j).length Acu) := (blk_cell gO 2).trans rfl
        have hr0 : wr.cell? ⟨w.heap.size + 1 + 1, 0, none⟩ = some (.int .i64 0) := (blk_cell gR 0).trans rfl
        have hr1 : wr.cell? ⟨w.heap.size + 1 + 1, 1, none⟩ = some (.slice none 0 0) := (blk_cell gR 1).trans rfl
        have hr2 : wr.cell? ⟨w.heap.size + 1 + 1, 2, none⟩ = some (.slice none 0 0) := (blk_cell gR 2).trans rfl
        have hf0 := blk_frozen gR 0
        have hf1 := blk_frozen gR 1
        have hf2 := blk_frozen gR 2
        go_wp2
        clear hc0 hc1 hc2 hr0 hr1 hr2 hf0 hf1 hf2
        refine sign_end (gR := w.heap.size + 1 + 1) ?_ ?_ (by omega) (by omega) (by omega) (by omega) hU hV gR gD hB
        · rfl
        · rfl
end Go.Proofs.YteleheamnighkaaDoor
end
section
set_option linter.unusedVariables false
set_option linter.unusedSimpArgs false
namespace Go.Proofs.YteleheamnighkaaDoor
open Go.RowKit Go.Shelf Go.DoorKit Go.DoorRound Go.Proofs.YteleheamnighkaaDoorW.PrintWords Go.Proofs.YteleheamnighkaaDoorW.PrintLast Go.Proofs.YteleheamnighkaaDoorW.PrintMore
def BadTo (w : World) (e : Ending) (w' : World) : Prop := e = .returned (.tuple #[.agg #[.int .i64 0, .slice none 0 0, .slice none 0 0], .int .i64 1]) ∧ Below w.heap.size w w'
theorem bad_end {w : World} {a0 : ByteArray} {a2 : Int} {nq : Nat} {tm : Array Value} (t9 : tm.getD 9 undef = .int .i64 1) (t8 : tm.getD 8 undef = .pointer (some ⟨w.heap.size + 1 + 1, 0, none⟩)) :
    bodyPost Tryd.prog Tryd.f30 (fun e w' => BadTo w e w') .ret { tmps := tm, defers := [] }
      (((((((w.alloc (.cells #[.string a0] 9)).alloc (.cells #[.int .i64 a2] 3)).alloc (.cells #[.int .i64 0, .slice none 0 0, .slice none 0 0] 35)).drewN nq).setCell ⟨w.heap.size + 1 + 1, 0, none⟩ (.int .i64 0)).setCell ⟨w.heap.size + 1 + 1, 1, none⟩ (.slice none 0 0)).setCell ⟨w.heap.size + 1 + 1, 2, none⟩ (.slice none 0 0)) := by
  have k0 := blk_new ((w.alloc (.cells #[.string a0] 9)).alloc (.cells #[.int .i64 a2] 3)) (.cells #[.int .i64 0, .slice none 0 0, .slice none 0 0] 35)
  simp only [World.size_alloc] at k0
  have k1 := blk_put (cs' := #[.int .i64 0, .slice none 0 0, .slice none 0 0]) (blk_put (cs' := #[.int .i64 0, .slice none 0 0, .slice none 0 0]) (blk_put (cs' := #[.int .i64 0, .slice none 0 0, .slice none 0 0]) (blk_drewN k0 nq) 0 (.int .i64 0) rfl) 1 (.slice none 0 0) rfl) 2 (.slice none 0 0) rfl
  refine bodyPost_ret (results_ct rfl _ _ (w.heap.size + 1 + 1) 35 _ (0, 0) _ t8 k1 Tryd.underlying35 rfl (by kernel_rfl)) rfl ⟨?_, ?_⟩
  · rw [t9]
  · have hb := pw_below_drewN (below_alloc (below_alloc (below_alloc (Below.refl w.heap.size w) (.cells #[.string a0] 9)) (.cells #[.int .i64 a2] 3)) (.cells #[.int .i64 0, .slice none 0 0, .slice none 0 0] 35)) nq
    have hp : w.heap.size ≤ w.heap.size + 1 + 1 := by omega
    exact ((hb.setCell (p := ⟨w.heap.size + 1 + 1, 0, none⟩) hp _).setCell (p := ⟨w.heap.size + 1 + 1, 1, none⟩) hp _).setCell (p := ⟨w.heap.size + 1 + 1, 2, none⟩) hp _
set_option maxRecDepth 100000 in
set_option maxHeartbeats 4000000 in
theorem sign_bad (a0 : ByteArray) (a1 a2 : Int) (msg : ByteArray) (w : World) (h : a1 < 0 ∨ 8 < a1 ∨ a2 < 0 ∨ (2 : Int) ^ a1.toNat ≤ a2) :
    Calls Tryd.prog 30 #[.string a0, .int .i64 a1, .int .i64 a2, .string msg] w fun e w' => BadTo w e w' := by
  by_cases c1 : a1 < 0
  · go_enter Tryd.func30, Tryd.ntmps30
    go_wp2
    have d1 : decide (a1 < 0) = true := decide_eq_true c1
    go_quiet (fail)
    clear d1
    go_wp2
    refine bad_end ?_ ?_
    · rfl
    · rfl
  · have d1 : decide (a1 < 0) = false := decide_eq_false c1
    by_cases c2 : 8 < a1
    · go_enter Tryd.func30, Tryd.ntmps30
      go_wp2
      have d2 : decide (8 < a1) = true := decide_eq_true c2
      go_quiet (fail)
      clear d1 d2
      go_wp2
      refine bad_end ?_ ?_
      · rfl
      · rfl
    · have d2 : decide (8 < a1) = false := decide_eq_false c2
      by_cases c3 : a2 < 0
      · go_enter Tryd.func30, Tryd.ntmps30
        go_wp2
        have d3 : decide (a2 < 0) = true := decide_eq_true c3
        go_quiet (fail)
        clear d1 d2 d3
        go_wp2
        refine bad_end ?_ ?_
        · rfl
        · rfl
      · have h4 : (2 : Int) ^ a1.toNat ≤ a2 := by rcases h with h | h | h | h <;> first | exact absurd h (by assumption) | exact h
        obtain ⟨n, rfl⟩ := Int.eq_ofNat_of_zero_le (show 0 ≤ a1 by omega)
        rw [Int.toNat_natCast] at h4
        have hp : 2 ^ n ≤ 256 := Nat.le_trans (pow_le (show n ≤ 8 by omega)) (by decide)
        have hpow : (2 : Int) ^ n = ((2 ^ n : Nat) : Int) := by simp
        generalize 2 ^ n = Pw at *
        rw [hpow] at h4
        have d5 : IntKind.i64.wrap (Pw : Int) = (Pw : Int) := IntWalk.i64_in _ (by omega)
        have d3 : decide (a2 < 0) = false := decide_eq_false c3
        have d4 : decide ((Pw : Int) ≤ a2) = true := decide_eq_true h4
        have c2' : ¬ (8 : Int) < (n : Int) := c2
        clear h h4
        go_enter Tryd.func30, Tryd.ntmps30
        go_wp2
        go_quiet (fail)
        clear d1 d2 d3 d4 d5 hpow
        go_wp2
        refine bad_end ?_ ?_
        · rfl
        · rfl
def signIn (a0 a3 : ByteArray) : Prop := Small a0.size ∧ Big a3.size
instance (a0 a3 : ByteArray) : Decidable (signIn a0 a3) := inferInstanceAs (Decidable (Small a0.size ∧ Big a3.size))
def signBad (a1 a2 : Int) : Prop := a1 < 0 ∨ 8 < a1 ∨ a2 < 0 ∨ (2 : Int) ^ a1.toNat ≤ a2
instance (a1 a2 : Int) : Decidable (signBad a1 a2) := inferInstanceAs (Decidable (a1 < 0 ∨ 8 < a1 ∨ a2 < 0 ∨ (2 : Int) ^ a1.toNat ≤ a2))
def signR (s : Dig.Txt) (a1 a2 : Int) (m : Dig.Txt) : Int × List ByteArray × List ByteArray × Int :=
  if signBad a1 a2 then (0, [], [], 1) else (a2, sigL s a2.toNat m, pathL s a2.toNat a1.toNat, 0)
def seal_Sign.f (a0 : ByteArray) (a1 a2 : Int) (a3 : ByteArray) : Option (Int × List ByteArray × List ByteArray × Int) := if signIn a0 a3 then some (signR (tx a0) a1 a2 (tx a3)) else none
theorem seal_Sign.calls (a0 : ByteArray) (a1 a2 : Int) (a3 : ByteArray) (r1 : Int) (r2 r3 : List ByteArray) (r4 : Int) (w : World) (h : seal_Sign.f a0 a1 a2 a3 = some (r1, r2, r3, r4)) (hG : Glob w) :
    Calls Tryd.prog 30 #[.string a0, .int .i64 a1, .int .i64 a2, .string a3] w fun e w' => ∃ v1_ v2_ : Value, e = .returned (.tuple #[.agg #[.int .i64 r1, v1_, v2_], .int .i64 r4]) ∧ Kd.R Kd.string 9 w' w.heap.size (fun k_ => some k_ ≠ (v2_ : Value).ownBlock) v1_ r2 ∧ Kd.R Kd.string 9 w' w.heap.size (fun k_ => some k_ ≠ (v1_ : Value).ownBlock) v2_ r3 ∧ Below w.heap.size w w' := by
  obtain ⟨⟨hs, hm⟩, hr⟩ := if_out h
  unfold signR at hr
  by_cases hb : signBad a1 a2
  · rw [if_pos hb] at hr
    injection hr with h1 hr
    injection hr with h2 hr
    injection hr with h3 h4
    subst h1 h2 h3 h4
    refine (sign_bad a0 a1 a2 a3 w hb).mono ?_
    rintro e w' ⟨rfl, hB⟩
    exact ⟨_, _, rfl, Kd.R_nil _ _ _ _ _, Kd.R_nil _ _ _ _ _, hB⟩
  · rw [if_neg hb] at hr
    injection hr with h1 hr
    injection hr with h2 hr
    injection hr with h3 h4
    subst h1 h2 h3 h4
    unfold signBad at hb
    obtain ⟨n, rfl⟩ := Int.eq_ofNat_of_zero_le (show 0 ≤ a1 by omega)
    obtain ⟨i, rfl⟩ := Int.eq_ofNat_of_zero_le (show 0 ≤ a2 by omega)
    rw [Int.toNat_natCast] at hb
    have hi : i < 2 ^ n := by
      have hpow : (2 : Int) ^ n = ((2 ^ n : Nat) : Int) := by simp
      rw [hpow] at hb
      generalize 2 ^ n = P at *
      omega
    exact callsIn_wide.1 (sign_in a0 n i a3 w hs hm (by omega) hi hG)
theorem public_l0 (s : Dig.Txt) : ∀ (d j e : Nat), d ≤ 9 → PCg.seal_Public.l0 (d + e + 1) (lvl s (2 ^ d) j) = some (ofT (Dig.tree s (j + d) 0), 0)
  | 0, j, e, _ => by
    have hl := lvl_len s (2 ^ 0) j
    have hl : ((lvl s (2 ^ 0) j).length : Int) = 1 := by rw [hl]; rfl
    rw [PCg.seal_Public.l0, if_neg (by omega), if_pos (by omega)]
    unfold rdOf
    rw [show (0 : Int).toNat = 0 from rfl, lvl_get _ _ _ _ (by decide)]; rfl
  | d + 1, j, e, h => by
    have hp : 2 ^ (d + 1) = 2 * 2 ^ d := by rw [Nat.pow_succ, Nat.mul_comm]
    have hp0 := Nat.two_pow_pos d
    have hp9 : 2 ^ d ≤ 256 := Nat.le_trans (pow_le (show d ≤ 8 by omega)) (by decide)
    have hl := lvl_len s (2 ^ (d + 1)) j
    have hA : seal_above.f (lvl s (2 ^ (d + 1)) j) = some (lvl s (2 ^ d) (j + 1)) := by
      unfold seal_above.f
      rw [if_pos, hp, upL_lvl]
      refine ⟨⟨by omega, fun x hx => by rw [lvl_size s _ j x hx]; decide⟩, by omega, by omega⟩
    rw [show d + 1 + e + 1 = (d + e + 1) + 1 by omega, PCg.seal_Public.l0, if_pos (by omega), hA, Option.bind_some, public_l0 s d (j + 1) e (by omega), show j + 1 + d = j + (d + 1) by omega]
def publicR (s : Dig.Txt) (a1 : Int) : ByteArray × Int := if a1 < 0 ∨ 8 < a1 then (⟨#[]⟩, 1) else (ofT (Dig.tree s a1.toNat 0), 0)
def seal_Public.f (a0 : ByteArray) (a1 : Int) : Option (ByteArray × Int) := if Small a0.size then some (publicR (tx a0) a1) else none
theorem seal_Public.calls (a0 : ByteArray) (a1 : Int) (r1 : ByteArray) (r2 : Int) (w : World) (h : seal_Public.f a0 a1 = some (r1, r2)) (hG : Glob w) :
    Calls Tryd.prog 28 #[.string a0, .int .i64 a1] w fun e w' => e = .returned (.tuple #[.string r1, .int .i64 r2]) ∧ Below w.heap.size w w' := by
  obtain ⟨hs, hr⟩ := if_out h
  unfold publicR at hr
  by_cases hb : a1 < 0 ∨ 8 < a1
  · rw [if_pos hb] at hr
    refine PCg.seal_Public.calls 1 a0 a1 r1 r2 w ?_ hG
    rw [← hr]
    unfold PCg.seal_Public.f
    by_cases h0 : a1 < 0
    · rw [if_pos h0, PCg.seal_Public.j0, if_pos rfl]
    · have h8 : a1 > 8 := by omega
      rw [if_neg h0, PCg.seal_Public.j0, if_pos (decide_eq_true h8)]
  · rw [if_neg hb] at hr
    obtain ⟨n, rfl⟩ := Int.eq_ofNat_of_zero_le (show 0 ≤ a1 by omega)
    refine PCg.seal_Public.calls (2 ^ n + n + 1 + 1) a0 n r1 r2 w ?_ hG
    rw [← hr]
    unfold PCg.seal_Public.f
    have h8 : ¬ ((n : Int) > 8) := by omega
    have hk := keys_f a0 n n hs (by omega)
    have hl := public_l0 (tx a0) n 0 (2 ^ n) (by omega)
    rw [show n + 2 ^ n + 1 = 2 ^ n + n + 1 by omega, Nat.zero_add] at hl
    rw [if_neg (by omega), PCg.seal_Public.j0, if_neg (by rw [decide_eq_false h8]; decide), hk, Option.bind_some, hl, Int.toNat_natCast]
end Go.Proofs.YteleheamnighkaaDoor
end
section
set_option linter.unusedVariables false
set_option linter.unusedSimpArgs false
namespace Go.Proofs.YteleheamnighkaaDoor
open Go.RowKit Go.Shelf Go.DoorKit Go.DoorRound Go.Proofs.YteleheamnighkaaDoorW.PrintWords Go.Proofs.YteleheamnighkaaDoorW.PrintLast Go.Proofs.YteleheamnighkaaDoorW.PrintMore
theorem goesV_ {P : Program} {ops : Array Oper} {Q : Exit → Act → World → Prop} {oi : Oper} {N : Option Tmp} {a : Act} {w : World} {K : Act → World → Prop} (f : FuncId) {fn : Func} {c : Operand} {al : Array Operand} {ts : Array TypeId} (hf : P.funcs[f]? = some fn) (hname : (fn.name == "runtime.NumGoroutine") = false) (hb : fn.body.isSome = true) (args : Array Value)
    (hw : Region.wanted oi (yielded ops a.tmps) = true) (hN : oi.dst = N) (hop : oi.op = .call { callee := .value c, args := al, argTypes := ts }) (hc : a.eval c = .func (.func f) #[] #[]) (hargs : al.map a.eval = args)
    (h : Calls P f args w fun e w' => ∃ v, e = .returned v ∧ K (a.put N v) w') : if Region.wanted oi (yielded ops a.tmps) = true then Oper.wp P oi a w K Q else K (a.put N undef) w := by
  refine call_ f args hw hN ?_ h
  have he := enters_ hf hname hb args w
  unfold execOp
  simp [hop, resolve, hc, Deferred.ofValue, invoke, hargs, he]
theorem f62_calls (t : ByteArray) (w : World) (h : Big t.size) : Calls Tryd.prog 62 #[.string t] w fun e w' => e = .returned (.bool (!Dig.isD (tx t))) ∧ Below w.heap.size w w' := by
  have HC := Lib.hid (digest_Is.calls t (Dig.isD (tx t)) w (if_pos h))
  go_enter Tryd.func62, Tryd.ntmps62
  go_wp2_with (go_at_call 21; refine HC.out.mono ?_; rintro e w' ⟨rfl, hb⟩)
  go_ret
  exact ⟨rfl, hb⟩
def OkTo (l : List ByteArray) (k : Nat) : Prop := ∀ i, i < k → i < l.length → Dig.isD (tx (l.getD i ByteArray.empty)) = true
theorem okTo_succ {l : List ByteArray} {k : Nat} (h : OkTo l k) (hk : Dig.isD (tx (l.getD k ByteArray.empty)) = true) : OkTo l (k + 1) := by
  intro i hi hl
  by_cases e : i = k
  · rw [e]; exact hk
  · exact h i (by omega) hl
set_option maxHeartbeats 1000000 in
theorem f85_calls (A : Option Addr) (c : Nat) (l : List ByteArray) (w : World) (hr : Kd.C Kd.string w A l.length l) (hc : l.length ≤ c) (hbig : ∀ s ∈ l, Big s.size) (hlen : l.length ≤ 1000000) :
    Calls Tryd.prog 85 #[.slice A l.length c, .func (.func 62) #[] #[]] w fun e w' => ∃ z : Int, e = .returned (.int .i64 z) ∧ (0 ≤ z ↔ l.any (fun t => !Dig.isD (tx t)) = true) ∧ Below w.heap.size w w' := by
  go_enter Tryd.func85, Tryd.ntmps85
  go_wp2
  go_loopw [8] (fun i wr => ∃ k : Nat, k ≤ l.length ∧ i = .int .i64 (k : Int) ∧ OkTo l k ∧ Below w.heap.size w wr) (fun i _ => l.length - (intOf i).toNat)
  case atStart => exact ⟨0, Nat.zero_le _, rfl, fun i hi => absurd hi (by omega), Below.refl _ _⟩
  case round =>
    obtain ⟨k, hk, rfl, hok, hB⟩ := hrel
    by_cases hlt : k < l.length
    · obtain ⟨ad, rfl, hcell⟩ := Kd.at_string (Kd.C_below hr hB) (k : Int) (by omega) (by omega)
      rw [Int.toNat_natCast] at hcell
      unfold rdOf at hcell
      rw [Int.toNat_natCast] at hcell
      have hq1 : (k : Int) < (l.length : Int) := by omega
      have hbk := hbig _ (getD_mem hlt)
      have HK := Lib.hid (And.intro hr (And.intro hbig hok))
      clear hr hbig hok
      obtain ⟨b, hbb⟩ : ∃ b, b = (!Dig.isD (tx (l.getD k ByteArray.empty))) := ⟨_, rfl⟩
      have HC := Lib.hid (f62_calls (l.getD k ByteArray.empty) wr hbk)
      rw [← hbb] at HC
      have HBB := Lib.hid hbb
      generalize hgt : l.getD k ByteArray.empty = t at *
      have HT := Lib.hid hgt
      clear hgt
      clear hbb
      cases b with
      | true =>
        go_wp2_with (go_at_call 62; refine HC.out.mono ?_; rintro e w1 ⟨rfl, hb1⟩)
        go_ret
        obtain ⟨hr, hbig, hok⟩ := HK.out
        refine ⟨(k : Int), rfl, ⟨fun _ => ?_, fun _ => by omega⟩, hB.trans (hb1.mono hB.size)⟩
        rw [List.any_eq_true]
        exact ⟨t, by rw [← HT.out]; exact getD_mem hlt, HBB.out.symm⟩
      | false =>
        go_wp2_with (go_at_call 62; refine HC.out.mono ?_; rintro e w1 ⟨rfl, hb1⟩)
        go_roundw
        case rel => exact ⟨k + 1, by omega, by first | rfl | (congr 1; omega), okTo_succ HK.out.2.2 (by rw [HT.out]; simpa using HBB.out.symm), hB.trans (hb1.mono hB.size)⟩
        case measure => simp [intOf]; omega
    · obtain rfl : k = l.length := by omega
      have HK := Lib.hid (And.intro hr (And.intro hbig hok))
      clear hr hbig hok
      go_wp2
      go_ret
      refine ⟨-1, rfl, ⟨fun h => by omega, fun h => ?_⟩, hB⟩
      obtain ⟨t, ht, h2⟩ := List.any_eq_true.1 h
      obtain ⟨i, hi, rfl⟩ := List.getElem_of_mem ht
      have := HK.out.2.2 i hi hi
      rw [List.getD_eq_getElem?_getD, List.getElem?_eq_getElem hi, Option.getD_some] at this
      rw [this] at h2; cases h2
def oddB (l : List ByteArray) : Bool := l.any fun t => !Dig.isD (tx t)
theorem f61_calls (A : Option Addr) (c : Nat) (l : List ByteArray) (w : World) (hr : Kd.C Kd.string w A l.length l) (hc : l.length ≤ c) (hbig : ∀ s ∈ l, Big s.size) (hlen : l.length ≤ 1000000) :
    Calls Tryd.prog 61 #[.slice A l.length c, .func (.func 62) #[] #[]] w fun e w' => e = .returned (.bool (oddB l)) ∧ Below w.heap.size w w' := by
  have h85 := f85_calls A c l w hr hc hbig hlen
  cases hb : oddB l with
  | true =>
    have HC := Lib.hid (h85.mono (R' := fun e w' => ∃ z : Int, e = .returned (.int .i64 z) ∧ 0 ≤ z ∧ Below w.heap.size w w') (fun e w' ⟨z, h1, h2, h3⟩ => ⟨z, h1, h2.2 hb, h3⟩))
    clear hr hbig hb h85
    go_enter Tryd.func61, Tryd.ntmps61
    go_wp2_with (go_at_call 85; refine HC.out.mono ?_; rintro e w1 ⟨z, rfl, hz, hb1⟩)
    go_ret
    exact ⟨rfl, hb1⟩
  | false =>
    have HC := Lib.hid (h85.mono (R' := fun e w' => ∃ z : Int, e = .returned (.int .i64 z) ∧ z < 0 ∧ Below w.heap.size w w') (fun e w' ⟨z, h1, h2, h3⟩ => ⟨z, h1, by
      have h0 : ¬ 0 ≤ z := fun h => by have := h2.1 h; unfold oddB at hb; rw [hb] at this; cases this
      omega, h3⟩))
    clear hr hbig hb h85
    go_enter Tryd.func61, Tryd.ntmps61
    go_wp2_with (go_at_call 85; refine HC.out.mono ?_; rintro e w1 ⟨z, rfl, hz, hb1⟩)
    go_ret
    refine ⟨?_, hb1⟩
    show Ending.returned (.bool (decide (0 ≤ z))) = _
    rw [decide_eq_false (by omega)]
theorem odd_calls (A : Option Addr) (c : Nat) (l : List ByteArray) (w : World) (hr : Kd.C Kd.string w A l.length l) (hc : l.length ≤ c) (hbig : ∀ s ∈ l, Big s.size) (hlen : l.length ≤ 1000000) :
    Calls Tryd.prog 60 #[.slice A l.length c] w fun e w' => e = .returned (.bool (oddB l)) ∧ Below w.heap.size w w' := by
  have HC := Lib.hid (f61_calls A c l w hr hc hbig hlen)
  clear hr hbig
  go_enter Tryd.func60, Tryd.ntmps60
  go_wp2_with (go_at_call 61; refine HC.out.mono ?_; rintro e w1 ⟨rfl, hb1⟩)
  go_ret
  exact ⟨rfl, hb1⟩
end Go.Proofs.YteleheamnighkaaDoor
end
section
set_option linter.unusedVariables false
set_option linter.unusedSimpArgs false
namespace Go.Proofs.YteleheamnighkaaDoor
open Go.RowKit Go.Shelf Go.DoorKit Go.DoorRound Go.Proofs.YteleheamnighkaaDoorW.PrintWords Go.Proofs.YteleheamnighkaaDoorW.PrintLast Go.Proofs.YteleheamnighkaaDoorW.PrintMore
def VerTo (w : World) (b : Bool) (e : Ending) (w' : World) : Prop := e = .returned (.bool b) ∧ Below w.heap.size w w'
section
variable (a0 msg : ByteArray) (idx : Int) (A1 A2 : Option Addr) (c1 c2 : Nat) (l1 l2 : List ByteArray) (w : World)
def OddOf (A : Option Addr) (c : Nat) (l : List ByteArray) (b : Bool) : Prop := ∀ W, Below w.heap.size w W → Calls Tryd.prog 60 #[.slice A l.length c] W fun e w' => e = .returned (.bool b) ∧ Below W.heap.size W w'
theorem oddOf {w : World} {A : Option Addr} {c : Nat} {l : List ByteArray} (hr : Kd.C Kd.string w A l.length l) (hc : l.length ≤ c) (hbig : ∀ s ∈ l, Big s.size) (hlen : l.length ≤ 1000000) {b : Bool} (hb : oddB l = b) : OddOf w A c l b := by
  intro W hW
  rw [← hb]
  exact odd_calls A c l W (Kd.C_below hr hW) hc hbig hlen
set_option maxRecDepth 100000 in
set_option maxHeartbeats 4000000 in
theorem ver_bad1 (h1 : l1.length ≠ 18) :
    Calls Tryd.prog 33 #[.string a0, .string msg, .agg #[.int .i64 idx, .slice A1 l1.length c1, .slice A2 l2.length c2]] w fun e w' => VerTo w false e w' := by
  have d1 : ((l1.length : Int) == 18) = false := beq_eq_false_iff_ne.mpr (by omega)
  have d2 : ((l1.length : Int) != 18) = true := bne_iff_ne.mpr (by omega)
  clear h1
  go_enter Tryd.func33, Tryd.ntmps33
  go_wp2
  have BK := blk_new w (.cells #[.int .i64 idx, .slice A1 l1.length c1, .slice A2 l2.length c2] 35)
  have HB := below_alloc (Below.refl w.heap.size w) (.cells #[.int .i64 idx, .slice A1 l1.length c1, .slice A2 l2.length c2] 35)
  refine start_ (n := 32) (S := fun w' => w'.cell? ⟨w.heap.size, 0, none⟩ = some (.int .i64 idx) ∧ w'.cell? ⟨w.heap.size, 1, none⟩ = some (.slice A1 l1.length c1) ∧ w'.cell? ⟨w.heap.size, 2, none⟩ = some (.slice A2 l2.length c2)) (ds := []) #[false, false, false, false, false, false, false, false, false, false, false, false, false, false, false, false, false, false, false, false, false, false, false, false, false, false, false, false, false, false, false, false] (by kernel_rfl) rfl rfl ⟨(blk_cell (blk_drew BK) 0).trans rfl, (blk_cell (blk_drew BK) 1).trans rfl, (blk_cell (blk_drew BK) 2).trans rfl⟩ (fun hHeld => ?_)
  replace BK := blk_drew BK
  replace HB := below_drew1 HB
  generalize (w.alloc (.cells #[.int .i64 idx, .slice A1 l1.length c1, .slice A2 l2.length c2] 35)).drew = Wd at BK HB hHeld ⊢
  refine pure_ (i := 0) (N := some 18) (v := ?_) (a' := ?_) #[true, false, false, false, false, false, false, false, false, false, false, false, false, false, false, false, false, false, false, false, false, false, false, false, false, false, false, false, false, false, false, false] rfl rfl (any_of rfl (by kernel_rfl)) (fun _ _ _ h => h) (Or.inl ⟨by rfl, ?_⟩) ?_ ?_
  rotate_left
  · intro w'
    go_simp
    with_reducible rfl
  rotate_left
  · simp only [Act.put, List.setIfInBounds_toArray, List.set_cons_zero, List.set_cons_succ, i64_w, i32_w]
    rfl
  refine take_ (i := 1) (N := some 19) (v := ?_) (a' := ?_) #[true, true, false, false, false, false, false, false, false, false, false, false, false, false, false, false, false, false, false, false, false, false, false, false, false, false, false, false, false, false, false, false] rfl rfl (take_of rfl (by kernel_rfl)) (fun _ _ _ h => h) (Or.inl ⟨by rfl, ?_⟩) hHeld ?_ ?_
  rotate_left
  · rintro w' ⟨s0, s1, s2⟩
    go_simp
    with_reducible rfl
  rotate_left
  · simp only [Act.put, List.setIfInBounds_toArray, List.set_cons_zero, List.set_cons_succ, i64_w, i32_w]
    rfl
  refine pure_ (i := 2) (N := some 20) (v := ?_) (a' := ?_) #[true, true, true, false, false, false, false, false, false, false, false, false, false, false, false, false, false, false, false, false, false, false, false, false, false, false, false, false, false, false, false, false] rfl rfl (any_of rfl (by kernel_rfl)) (fun _ _ _ h => h) (Or.inl ⟨by rfl, ?_⟩) ?_ ?_
  rotate_left
  · intro w'
    go_simp
    with_reducible rfl
  rotate_left
  · simp only [Act.put, List.setIfInBounds_toArray, List.set_cons_zero, List.set_cons_succ, i64_w, i32_w]
    rfl
  refine pure_ (i := 3) (N := some 21) (v := ?_) (a' := ?_) #[true, true, true, true, false, false, false, false, false, false, false, false, false, false, false, false, false, false, false, false, false, false, false, false, false, false, false, false, false, false, false, false] rfl rfl (any_of rfl (by kernel_rfl)) (fun _ _ _ h => h) (Or.inl ⟨by rfl, ?_⟩) ?_ ?_
  rotate_left
  · intro w'
    go_simp
    with_reducible rfl
  rotate_left
  · simp only [Act.put, List.setIfInBounds_toArray, List.set_cons_zero, List.set_cons_succ, i64_w, i32_w]
    rfl
  refine pure_ (i := 4) (N := some 22) (v := ?_) (a' := ?_) #[true, true, true, true, true, false, false, false, false, false, false, false, false, false, false, false, false, false, false, false, false, false, false, false, false, false, false, false, false, false, false, false] rfl rfl (any_of rfl (by kernel_rfl)) (fun _ _ _ h => h) (Or.inl ⟨by rfl, ?_⟩) ?_ ?_
  rotate_left
  · intro w'
    go_simp
    with_reducible rfl
  rotate_left
  · simp only [Act.put, List.setIfInBounds_toArray, List.set_cons_zero, List.set_cons_succ, i64_w, i32_w]
    rfl
  refine pure_ (i := 5) (N := some 23) (v := undef) (a' := ?_) #[true, true, true, true, true, true, false, false, false, false, false, false, false, false, false, false, false, false, false, false, false, false, false, false, false, false, false, false, false, false, false, false] rfl rfl (any_of rfl (by kernel_rfl)) (fun _ _ _ h => h) (Or.inr ⟨by rfl, rfl⟩) ?_ ?_
  rotate_left
  · simp only [Act.put, List.setIfInBounds_toArray, List.set_cons_zero, List.set_cons_succ, i64_w, i32_w]
    rfl
  refine pure_ (i := 6) (N := some 24) (v := undef) (a' := ?_) #[true, true, true, true, true, true, true, false, false, false, false, false, false, false, false, false, false, false, false, false, false, false, false, false, false, false, false, false, false, false, false, false] rfl rfl (any_of rfl (by kernel_rfl)) (fun _ _ _ h => h) (Or.inr ⟨by rfl, rfl⟩) ?_ ?_
  rotate_left
  · simp only [Act.put, List.setIfInBounds_toArray, List.set_cons_zero, List.set_cons_succ, i64_w, i32_w]
    rfl
  refine pure_ (i := 7) (N := some 25) (v := ?_) (a' := ?_) #[true, true, true, true, true, true, true, true, false, false, false, false, false, false, false, false, false, false, false, false, false, false, false, false, false, false, false, false, false, false, false, false] rfl rfl (any_of rfl (by kernel_rfl)) (fun _ _ _ h => h) (Or.inl ⟨by rfl, ?_⟩) ?_ ?_
  rotate_left
  · intro w'
    go_simp
    with_reducible rfl
  rotate_left
  · simp only [Act.put, List.setIfInBounds_toArray, List.set_cons_zero, List.set_cons_succ, i64_w, i32_w]
    rfl
  refine pure_ (i := 8) (N := some 26) (v := ?_) (a' := ?_) #[true, true, true, true, true, true, true, true, true, false, false, false, false, false, false, false, false, false, false, false, false, false, false, false, false, false, false, false, false, false, false, false] rfl rfl (any_of rfl (by kernel_rfl)) (fun _ _ _ h => h) (Or.inl ⟨by rfl, ?_⟩) ?_ ?_
  rotate_left
  · intro w'
    go_simp
    with_reducible rfl
  rotate_left
  · simp only [Act.put, List.setIfInBounds_toArray, List.set_cons_zero, List.set_cons_succ, i64_w, i32_w]
    rfl
  refine pure_ (i := 9) (N := some 27) (v := undef) (a' := ?_) #[true, true, true, true, true, true, true, true, true, true, false, false, false, false, false, false, false, false, false, false, false, false, false, false, false, false, false, false, false, false, false, false] rfl rfl (any_of rfl (by kernel_rfl)) (fun _ _ _ h => h) (Or.inr ⟨by rfl, rfl⟩) ?_ ?_
  rotate_left
  · simp only [Act.put, List.setIfInBounds_toArray, List.set_cons_zero, List.set_cons_succ, i64_w, i32_w]
    rfl
  refine pure_ (i := 10) (N := some 28) (v := undef) (a' := ?_) #[true, true, true, true, true, true, true, true, true, true, true, false, false, false, false, false, false, false, false, false, false, false, false, false, false, false, false, false, false, false, false, false] rfl rfl (any_of rfl (by kernel_rfl)) (fun _ _ _ h => h) (Or.inr ⟨by rfl, rfl⟩) ?_ ?_
  rotate_left
  · simp only [Act.put, List.setIfInBounds_toArray, List.set_cons_zero, List.set_cons_succ, i64_w, i32_w]
    rfl
  refine pure_ (i := 11) (N := some 29) (v := undef) (a' := ?_) #[true, true, true, true, true, true, true, true, true, true, true, true, false, false, false, false, false, false, false, false, false, false, false, false, false, false, false, false, false, false, false, false] rfl rfl (any_of rfl (by kernel_rfl)) (fun _ _ _ h => h) (Or.inr ⟨by rfl, rfl⟩) ?_ ?_
  rotate_left
  · simp only [Act.put, List.setIfInBounds_toArray, List.set_cons_zero, List.set_cons_succ, i64_w, i32_w]
    rfl
  refine pure_ (i := 12) (N := some 30) (v := undef) (a' := ?_) #[true, true, true, true, true, true, true, true, true, true, true, true, true, false, false, false, false, false, false, false, false, false, false, false, false, false, false, false, false, false, false, false] rfl rfl (any_of rfl (by kernel_rfl)) (fun _ _ _ h => h) (Or.inr ⟨by rfl, rfl⟩) ?_ ?_
  rotate_left
  · simp only [Act.put, List.setIfInBounds_toArray, List.set_cons_zero, List.set_cons_succ, i64_w, i32_w]
    rfl
  refine pure_ (i := 13) (N := some 31) (v := ?_) (a' := ?_) #[true, true, true, true, true, true, true, true, true, true, true, true, true, true, false, false, false, false, false, false, false, false, false, false, false, false, false, false, false, false, false, false] rfl rfl (any_of rfl (by kernel_rfl)) (fun _ _ _ h => h) (Or.inl ⟨by rfl, ?_⟩) ?_ ?_
  rotate_left
  · intro w'
    go_simp
    with_reducible rfl
  rotate_left
  · simp only [Act.put, List.setIfInBounds_toArray, List.set_cons_zero, List.set_cons_succ, i64_w, i32_w]
    rfl
  refine pure_ (i := 14) (N := some 32) (v := ?_) (a' := ?_) #[true, true, true, true, true, true, true, true, true, true, true, true, true, true, true, false, false, false, false, false, false, false, false, false, false, false, false, false, false, false, false, false] rfl rfl (any_of rfl (by kernel_rfl)) (fun _ _ _ h => h) (Or.inl ⟨by rfl, ?_⟩) ?_ ?_
  rotate_left
  · intro w'
    go_simp
    with_reducible rfl
  rotate_left
  · simp only [Act.put, List.setIfInBounds_toArray, List.set_cons_zero, List.set_cons_succ, i64_w, i32_w]
    rfl
  refine pure_ (i := 15) (N := some 33) (v := undef) (a' := ?_) #[true, true, true, true, true, true, true, true, true, true, true, true, true, true, true, true, false, false, false, false, false, false, false, false, false, false, false, false, false, false, false, false] rfl rfl (any_of rfl (by kernel_rfl)) (fun _ _ _ h => h) (Or.inr ⟨by rfl, rfl⟩) ?_ ?_
  rotate_left
  · simp only [Act.put, List.setIfInBounds_toArray, List.set_cons_zero, List.set_cons_succ, i64_w, i32_w]
    rfl
  refine pure_ (i := 16) (N := some 34) (v := undef) (a' := ?_) #[true, true, true, true, true, true, true, true, true, true, true, true, true, true, true, true, true, false, false, false, false, false, false, false, false, false, false, false, false, false, false, false] rfl rfl (any_of rfl (by kernel_rfl)) (fun _ _ _ h => h) (Or.inr ⟨by rfl, rfl⟩) ?_ ?_
  rotate_left
  · simp only [Act.put, List.setIfInBounds_toArray, List.set_cons_zero, List.set_cons_succ, i64_w, i32_w]
    rfl
  refine pure_ (i := 17) (N := some 35) (v := undef) (a' := ?_) #[true, true, true, true, true, true, true, true, true, true, true, true, true, true, true, true, true, true, false, false, false, false, false, false, false, false, false, false, false, false, false, false] rfl rfl (any_of rfl (by kernel_rfl)) (fun _ _ _ h => h) (Or.inr ⟨by rfl, rfl⟩) ?_ ?_
  rotate_left
  · simp only [Act.put, List.setIfInBounds_toArray, List.set_cons_zero, List.set_cons_succ, i64_w, i32_w]
    rfl
  refine pure_ (i := 18) (N := some 36) (v := undef) (a' := ?_) #[true, true, true, true, true, true, true, true, true, true, true, true, true, true, true, true, true, true, true, false, false, false, false, false, false, false, false, false, false, false, false, false] rfl rfl (any_of rfl (by kernel_rfl)) (fun _ _ _ h => h) (Or.inr ⟨by rfl, rfl⟩) ?_ ?_
  rotate_left
  · simp only [Act.put, List.setIfInBounds_toArray, List.set_cons_zero, List.set_cons_succ, i64_w, i32_w]
    rfl
  refine pure_ (i := 19) (N := some 37) (v := ?_) (a' := ?_) #[true, true, true, true, true, true, true, true, true, true, true, true, true, true, true, true, true, true, true, true, false, false, false, false, false, false, false, false, false, false, false, false] rfl rfl (any_of rfl (by kernel_rfl)) (fun _ _ _ h => h) (Or.inl ⟨by rfl, ?_⟩) ?_ ?_
  rotate_left
  · intro w'
    go_simp
    with_reducible rfl
  rotate_left
  · simp only [Act.put, List.setIfInBounds_toArray, List.set_cons_zero, List.set_cons_succ, i64_w, i32_w]
    rfl
  refine pure_ (i := 20) (N := some 38) (v := ?_) (a' := ?_) #[true, true, true, true, true, true, true, true, true, true, true, true, true, true, true, true, true, true, true, true, true, false, false, false, false, false, false, false, false, false, false, false] rfl rfl (any_of rfl (by kernel_rfl)) (fun _ _ _ h => h) (Or.inl ⟨by rfl, ?_⟩) ?_ ?_
  rotate_left
  · intro w'
    go_simp
    with_reducible rfl
  rotate_left
  · simp only [Act.put, List.setIfInBounds_toArray, List.set_cons_zero, List.set_cons_succ, i64_w, i32_w]
    rfl
  refine pure_ (i := 21) (N := some 39) (v := undef) (a' := ?_) #[true, true, true, true, true, true, true, true, true, true, true, true, true, true, true, true, true, true, true, true, true, true, false, false, false, false, false, false, false, false, false, false] rfl rfl (any_of rfl (by kernel_rfl)) (fun _ _ _ h => h) (Or.inr ⟨by rfl, rfl⟩) ?_ ?_
  rotate_left
  · simp only [Act.put, List.setIfInBounds_toArray, List.set_cons_zero, List.set_cons_succ, i64_w, i32_w]
    rfl
  refine pure_ (i := 22) (N := some 40) (v := undef) (a' := ?_) #[true, true, true, true, true, true, true, true, true, true, true, true, true, true, true, true, true, true, true, true, true, true, true, false, false, false, false, false, false, false, false, false] rfl rfl (any_of rfl (by kernel_rfl)) (fun _ _ _ h => h) (Or.inr ⟨by rfl, rfl⟩) ?_ ?_
  rotate_left
  · simp only [Act.put, List.setIfInBounds_toArray, List.set_cons_zero, List.set_cons_succ, i64_w, i32_w]
    rfl
  refine pure_ (i := 23) (N := some 41) (v := undef) (a' := ?_) #[true, true, true, true, true, true, true, true, true, true, true, true, true, true, true, true, true, true, true, true, true, true, true, true, false, false, false, false, false, false, false, false] rfl rfl (any_of rfl (by kernel_rfl)) (fun _ _ _ h => h) (Or.inr ⟨by rfl, rfl⟩) ?_ ?_
  rotate_left
  · simp only [Act.put, List.setIfInBounds_toArray, List.set_cons_zero, List.set_cons_succ, i64_w, i32_w]
    rfl
  refine pure_ (i := 24) (N := some 42) (v := ?_) (a' := ?_) #[true, true, true, true, true, true, true, true, true, true, true, true, true, true, true, true, true, true, true, true, true, true, true, true, true, false, false, false, false, false, false, false] rfl rfl (any_of rfl (by kernel_rfl)) (fun _ _ _ h => h) (Or.inl ⟨by rfl, ?_⟩) ?_ ?_
  rotate_left
  · intro w'
    go_simp
    with_reducible rfl
  rotate_left
  · simp only [Act.put, List.setIfInBounds_toArray, List.set_cons_zero, List.set_cons_succ, i64_w, i32_w]
    rfl
  refine pure_ (i := 25) (N := some 43) (v := ?_) (a' := ?_) #[true, true, true, true, true, true, true, true, true, true, true, true, true, true, true, true, true, true, true, true, true, true, true, true, true, true, false, false, false, false, false, false] rfl rfl (any_of rfl (by kernel_rfl)) (fun _ _ _ h => h) (Or.inl ⟨by rfl, ?_⟩) ?_ ?_
  rotate_left
  · intro w'
    go_simp
    with_reducible rfl
  rotate_left
  · simp only [Act.put, List.setIfInBounds_toArray, List.set_cons_zero, List.set_cons_succ, i64_w, i32_w]
    rfl
  refine pure_ (i := 26) (N := some 44) (v := undef) (a' := ?_) #[true, true, true, true, true, true, true, true, true, true, true, true, true, true, true, true, true, true, true, true, true, true, true, true, true, true, true, false, false, false, false, false] rfl rfl (any_of rfl (by kernel_rfl)) (fun _ _ _ h => h) (Or.inr ⟨by rfl, rfl⟩) ?_ ?_
  rotate_left
  · simp only [Act.put, List.setIfInBounds_toArray, List.set_cons_zero, List.set_cons_succ, i64_w, i32_w]
    rfl
  refine pure_ (i := 27) (N := some 45) (v := undef) (a' := ?_) #[true, true, true, true, true, true, true, true, true, true, true, true, true, true, true, true, true, true, true, true, true, true, true, true, true, true, true, true, false, false, false, false] rfl rfl (any_of rfl (by kernel_rfl)) (fun _ _ _ h => h) (Or.inr ⟨by rfl, rfl⟩) ?_ ?_
  rotate_left
  · simp only [Act.put, List.setIfInBounds_toArray, List.set_cons_zero, List.set_cons_succ, i64_w, i32_w]
    rfl
  refine pure_ (i := 28) (N := some 46) (v := undef) (a' := ?_) #[true, true, true, true, true, true, true, true, true, true, true, true, true, true, true, true, true, true, true, true, true, true, true, true, true, true, true, true, true, false, false, false] rfl rfl (any_of rfl (by kernel_rfl)) (fun _ _ _ h => h) (Or.inr ⟨by rfl, rfl⟩) ?_ ?_
  rotate_left
  · simp only [Act.put, List.setIfInBounds_toArray, List.set_cons_zero, List.set_cons_succ, i64_w, i32_w]
    rfl
  refine pure_ (i := 29) (N := some 47) (v := undef) (a' := ?_) #[true, true, true, true, true, true, true, true, true, true, true, true, true, true, true, true, true, true, true, true, true, true, true, true, true, true, true, true, true, true, false, false] rfl rfl (any_of rfl (by kernel_rfl)) (fun _ _ _ h => h) (Or.inr ⟨by rfl, rfl⟩) ?_ ?_
  rotate_left
  · simp only [Act.put, List.setIfInBounds_toArray, List.set_cons_zero, List.set_cons_succ, i64_w, i32_w]
    rfl
  refine pure_ (i := 30) (N := some 48) (v := undef) (a' := ?_) #[true, true, true, true, true, true, true, true, true, true, true, true, true, true, true, true, true, true, true, true, true, true, true, true, true, true, true, true, true, true, true, false] rfl rfl (any_of rfl (by kernel_rfl)) (fun _ _ _ h => h) (Or.inr ⟨by rfl, rfl⟩) ?_ ?_
  rotate_left
  · simp only [Act.put, List.setIfInBounds_toArray, List.set_cons_zero, List.set_cons_succ, i64_w, i32_w]
    rfl
  refine pure_ (i := 31) (N := some 49) (v := ?_) (a' := ?_) #[true, true, true, true, true, true, true, true, true, true, true, true, true, true, true, true, true, true, true, true, true, true, true, true, true, true, true, true, true, true, true, true] rfl rfl (any_of rfl (by kernel_rfl)) (fun _ _ _ h => h) (Or.inl ⟨by rfl, ?_⟩) ?_ ?_
  rotate_left
  · intro w'
    go_simp
    with_reducible rfl
  rotate_left
  · simp only [Act.put, List.setIfInBounds_toArray, List.set_cons_zero, List.set_cons_succ, i64_w, i32_w]
    rfl
  refine done_ (done_of rfl (by kernel_rfl)) ?_
  go_wp2
  go_ret
  exact ⟨rfl, HB⟩
set_option maxRecDepth 100000 in
set_option maxHeartbeats 4000000 in
theorem ver_bad2 (h1 : l1.length = 18) (h2 : 8 < l2.length) :
    Calls Tryd.prog 33 #[.string a0, .string msg, .agg #[.int .i64 idx, .slice A1 l1.length c1, .slice A2 l2.length c2]] w fun e w' => VerTo w false e w' := by
  have d1 : ((l1.length : Int) == 18) = true := beq_iff_eq.mpr (by omega)
  have d2 : ((l1.length : Int) != 18) = false := bne_eq_false_iff_eq.mpr (by omega)
  have d3 : decide (8 < (l2.length : Int)) = true := decide_eq_true (by omega)
  have d4 : decide (8 < l2.length) = true := decide_eq_true (by omega)
  clear h1 h2
  go_enter Tryd.func33, Tryd.ntmps33
  go_wp2
  have BK := blk_new w (.cells #[.int .i64 idx, .slice A1 l1.length c1, .slice A2 l2.length c2] 35)
  have HB := below_alloc (Below.refl w.heap.size w) (.cells #[.int .i64 idx, .slice A1 l1.length c1, .slice A2 l2.length c2] 35)
  refine start_ (n := 32) (S := fun w' => w'.cell? ⟨w.heap.size, 0, none⟩ = some (.int .i64 idx) ∧ w'.cell? ⟨w.heap.size, 1, none⟩ = some (.slice A1 l1.length c1) ∧ w'.cell? ⟨w.heap.size, 2, none⟩ = some (.slice A2 l2.length c2)) (ds := []) #[false, false, false, false, false, false, false, false, false, false, false, false, false, false, false, false, false, false, false, false, false, false, false, false, false, false, false, false, false, false, false, false] (by kernel_rfl) rfl rfl ⟨(blk_cell (blk_drew BK) 0).trans rfl, (blk_cell (blk_drew BK) 1).trans rfl, (blk_cell (blk_drew BK) 2).trans rfl⟩ (fun hHeld => ?_)
  replace BK := blk_drew BK
  replace HB := below_drew1 HB
  generalize (w.alloc (.cells #[.int .i64 idx, .slice A1 l1.length c1, .slice A2 l2.length c2] 35)).drew = Wd at BK HB hHeld ⊢
  refine pure_ (i := 0) (N := some 18) (v := ?_) (a' := ?_) #[true, false, false, false, false, false, false, false, false, false, false, false, false, false, false, false, false, false, false, false, false, false, false, false, false, false, false, false, false, false, false, false] rfl rfl (any_of rfl (by kernel_rfl)) (fun _ _ _ h => h) (Or.inl ⟨by rfl, ?_⟩) ?_ ?_
  rotate_left
  · intro w'
    go_simp
    with_reducible rfl
  rotate_left
  · simp only [Act.put, List.setIfInBounds_toArray, List.set_cons_zero, List.set_cons_succ, i64_w, i32_w]
    rfl
  refine take_ (i := 1) (N := some 19) (v := ?_) (a' := ?_) #[true, true, false, false, false, false, false, false, false, false, false, false, false, false, false, false, false, false, false, false, false, false, false, false, false, false, false, false, false, false, false, false] rfl rfl (take_of rfl (by kernel_rfl)) (fun _ _ _ h => h) (Or.inl ⟨by rfl, ?_⟩) hHeld ?_ ?_
  rotate_left
  · rintro w' ⟨s0, s1, s2⟩
    go_simp
    with_reducible rfl
  rotate_left
  · simp only [Act.put, List.setIfInBounds_toArray, List.set_cons_zero, List.set_cons_succ, i64_w, i32_w]
    rfl
  refine pure_ (i := 2) (N := some 20) (v := ?_) (a' := ?_) #[true, true, true, false, false, false, false, false, false, false, false, false, false, false, false, false, false, false, false, false, false, false, false, false, false, false, false, false, false, false, false, false] rfl rfl (any_of rfl (by kernel_rfl)) (fun _ _ _ h => h) (Or.inl ⟨by rfl, ?_⟩) ?_ ?_
  rotate_left
  · intro w'
    go_simp
    with_reducible rfl
  rotate_left
  · simp only [Act.put, List.setIfInBounds_toArray, List.set_cons_zero, List.set_cons_succ, i64_w, i32_w]
    rfl
  refine pure_ (i := 3) (N := some 21) (v := ?_) (a' := ?_) #[true, true, true, true, false, false, false, false, false, false, false, false, false, false, false, false, false, false, false, false, false, false, false, false, false, false, false, false, false, false, false, false] rfl rfl (any_of rfl (by kernel_rfl)) (fun _ _ _ h => h) (Or.inl ⟨by rfl, ?_⟩) ?_ ?_
  rotate_left
  · intro w'
    go_simp
    with_reducible rfl
  rotate_left
  · simp only [Act.put, List.setIfInBounds_toArray, List.set_cons_zero, List.set_cons_succ, i64_w, i32_w]
    rfl
  refine pure_ (i := 4) (N := some 22) (v := ?_) (a' := ?_) #[true, true, true, true, true, false, false, false, false, false, false, false, false, false, false, false, false, false, false, false, false, false, false, false, false, false, false, false, false, false, false, false] rfl rfl (any_of rfl (by kernel_rfl)) (fun _ _ _ h => h) (Or.inl ⟨by rfl, ?_⟩) ?_ ?_
  rotate_left
  · intro w'
    go_simp
    with_reducible rfl
  rotate_left
  · simp only [Act.put, List.setIfInBounds_toArray, List.set_cons_zero, List.set_cons_succ, i64_w, i32_w]
    rfl
  refine pure_ (i := 5) (N := some 23) (v := ?_) (a' := ?_) #[true, true, true, true, true, true, false, false, false, false, false, false, false, false, false, false, false, false, false, false, false, false, false, false, false, false, false, false, false, false, false, false] rfl rfl (any_of rfl (by kernel_rfl)) (fun _ _ _ h => h) (Or.inl ⟨by rfl, ?_⟩) ?_ ?_
  rotate_left
  · intro w'
    go_simp
    with_reducible rfl
  rotate_left
  · simp only [Act.put, List.setIfInBounds_toArray, List.set_cons_zero, List.set_cons_succ, i64_w, i32_w]
    rfl
  refine pure_ (i := 6) (N := some 24) (v := ?_) (a' := ?_) #[true, true, true, true, true, true, true, false, false, false, false, false, false, false, false, false, false, false, false, false, false, false, false, false, false, false, false, false, false, false, false, false] rfl rfl (any_of rfl (by kernel_rfl)) (fun _ _ _ h => h) (Or.inl ⟨by rfl, ?_⟩) ?_ ?_
  rotate_left
  · intro w'
    go_simp
    with_reducible rfl
  rotate_left
  · simp only [Act.put, List.setIfInBounds_toArray, List.set_cons_zero, List.set_cons_succ, i64_w, i32_w]
    rfl
  refine pure_ (i := 7) (N := some 25) (v := ?_) (a' := ?_) #[true, true, true, true, true, true, true, true, false, false, false, false, false, false, false, false, false, false, false, false, false, false, false, false, false, false, false, false, false, false, false, false] rfl rfl (any_of rfl (by kernel_rfl)) (fun _ _ _ h => h) (Or.inl ⟨by rfl, ?_⟩) ?_ ?_
  rotate_left
  · intro w'
    go_simp
    with_reducible rfl
  rotate_left
  · simp only [Act.put, List.setIfInBounds_toArray, List.set_cons_zero, List.set_cons_succ, i64_w, i32_w]
    rfl
  refine pure_ (i := 8) (N := some 26) (v := ?_) (a' := ?_) #[true, true, true, true, true, true, true, true, true, false, false, false, false, false, false, false, false, false, false, false, false, false, false, false, false, false, false, false, false, false, false, false] rfl rfl (any_of rfl (by kernel_rfl)) (fun _ _ _ h => h) (Or.inl ⟨by rfl, ?_⟩) ?_ ?_
  rotate_left
  · intro w'
    go_simp
    with_reducible rfl
  rotate_left
  · simp only [Act.put, List.setIfInBounds_toArray, List.set_cons_zero, List.set_cons_succ, i64_w, i32_w]
    rfl
  refine pure_ (i := 9) (N := some 27) (v := undef) (a' := ?_) #[true, true, true, true, true, true, true, true, true, true, false, false, false, false, false, false, false, false, false, false, false, false, false, false, false, false, false, false, false, false, false, false] rfl rfl (any_of rfl (by kernel_rfl)) (fun _ _ _ h => h) (Or.inr ⟨by rfl, rfl⟩) ?_ ?_
  rotate_left
  · simp only [Act.put, List.setIfInBounds_toArray, List.set_cons_zero, List.set_cons_succ, i64_w, i32_w]
    rfl
  refine pure_ (i := 10) (N := some 28) (v := undef) (a' := ?_) #[true, true, true, true, true, true, true, true, true, true, true, false, false, false, false, false, false, false, false, false, false, false, false, false, false, false, false, false, false, false, false, false] rfl rfl (any_of rfl (by kernel_rfl)) (fun _ _ _ h => h) (Or.inr ⟨by rfl, rfl⟩) ?_ ?_
  rotate_left
  · simp only [Act.put, List.setIfInBounds_toArray, List.set_cons_zero, List.set_cons_succ, i64_w, i32_w]
    rfl
  refine pure_ (i := 11) (N := some 29) (v := undef) (a' := ?_) #[true, true, true, true, true, true, true, true, true, true, true, true, false, false, false, false, false, false, false, false, false, false, false, false, false, false, false, false, false, false, false, false] rfl rfl (any_of rfl (by kernel_rfl)) (fun _ _ _ h => h) (Or.inr ⟨by rfl, rfl⟩) ?_ ?_
  rotate_left
  · simp only [Act.put, List.setIfInBounds_toArray, List.set_cons_zero, List.set_cons_succ, i64_w, i32_w]
    rfl
  refine pure_ (i := 12) (N := some 30) (v := undef) (a' := ?_) #[true, true, true, true, true, true, true, true, true, true, true, true, true, false, false, false, false, false, false, false, false, false, false, false, false, false, false, false, false, false, false, false] rfl rfl (any_of rfl (by kernel_rfl)) (fun _ _ _ h => h) (Or.inr ⟨by rfl, rfl⟩) ?_ ?_
  rotate_left
  · simp only [Act.put, List.setIfInBounds_toArray, List.set_cons_zero, List.set_cons_succ, i64_w, i32_w]
    rfl
  refine pure_ (i := 13) (N := some 31) (v := ?_) (a' := ?_) #[true, true, true, true, true, true, true, true, true, true, true, true, true, true, false, false, false, false, false, false, false, false, false, false, false, false, false, false, false, false, false, false] rfl rfl (any_of rfl (by kernel_rfl)) (fun _ _ _ h => h) (Or.inl ⟨by rfl, ?_⟩) ?_ ?_
  rotate_left
  · intro w'
    go_simp
    with_reducible rfl
  rotate_left
  · simp only [Act.put, List.setIfInBounds_toArray, List.set_cons_zero, List.set_cons_succ, i64_w, i32_w]
    rfl
  refine pure_ (i := 14) (N := some 32) (v := ?_) (a' := ?_) #[true, true, true, true, true, true, true, true, true, true, true, true, true, true, true, false, false, false, false, false, false, false, false, false, false, false, false, false, false, false, false, false] rfl rfl (any_of rfl (by kernel_rfl)) (fun _ _ _ h => h) (Or.inl ⟨by rfl, ?_⟩) ?_ ?_
  rotate_left
  · intro w'
    go_simp
    with_reducible rfl
  rotate_left
  · simp only [Act.put, List.setIfInBounds_toArray, List.set_cons_zero, List.set_cons_succ, i64_w, i32_w]
    rfl
  refine pure_ (i := 15) (N := some 33) (v := undef) (a' := ?_) #[true, true, true, true, true, true, true, true, true, true, true, true, true, true, true, true, false, false, false, false, false, false, false, false, false, false, false, false, false, false, false, false] rfl rfl (any_of rfl (by kernel_rfl)) (fun _ _ _ h => h) (Or.inr ⟨by rfl, rfl⟩) ?_ ?_
  rotate_left
  · simp only [Act.put, List.setIfInBounds_toArray, List.set_cons_zero, List.set_cons_succ, i64_w, i32_w]
    rfl
  refine pure_ (i := 16) (N := some 34) (v := undef) (a' := ?_) #[true, true, true, true, true, true, true, true, true, true, true, true, true, true, true, true, true, false, false, false, false, false, false, false, false, false, false, false, false, false, false, false] rfl rfl (any_of rfl (by kernel_rfl)) (fun _ _ _ h => h) (Or.inr ⟨by rfl, rfl⟩) ?_ ?_
  rotate_left
  · simp only [Act.put, List.setIfInBounds_toArray, List.set_cons_zero, List.set_cons_succ, i64_w, i32_w]
    rfl
  refine pure_ (i := 17) (N := some 35) (v := undef) (a' := ?_) #[true, true, true, true, true, true, true, true, true, true, true, true, true, true, true, true, true, true, false, false, false, false, false, false, false, false, false, false, false, false, false, false] rfl rfl (any_of rfl (by kernel_rfl)) (fun _ _ _ h => h) (Or.inr ⟨by rfl, rfl⟩) ?_ ?_
  rotate_left
  · simp only [Act.put, List.setIfInBounds_toArray, List.set_cons_zero, List.set_cons_succ, i64_w, i32_w]
    rfl
  refine pure_ (i := 18) (N := some 36) (v := undef) (a' := ?_) #[true, true, true, true, true, true, true, true, true, true, true, true, true, true, true, true, true, true, true, false, false, false, false, false, false, false, false, false, false, false, false, false] rfl rfl (any_of rfl (by kernel_rfl)) (fun _ _ _ h => h) (Or.inr ⟨by rfl, rfl⟩) ?_ ?_
  rotate_left
  · simp only [Act.put, List.setIfInBounds_toArray, List.set_cons_zero, List.set_cons_succ, i64_w, i32_w]
    rfl
  refine pure_ (i := 19) (N := some 37) (v := ?_) (a' := ?_) #[true, true, true, true, true, true, true, true, true, true, true, true, true, true, true, true, true, true, true, true, false, false, false, false, false, false, false, false, false, false, false, false] rfl rfl (any_of rfl (by kernel_rfl)) (fun _ _ _ h => h) (Or.inl ⟨by rfl, ?_⟩) ?_ ?_
  rotate_left
  · intro w'
    go_simp
    with_reducible rfl
  rotate_left
  · simp only [Act.put, List.setIfInBounds_toArray, List.set_cons_zero, List.set_cons_succ, i64_w, i32_w]
    rfl
  refine pure_ (i := 20) (N := some 38) (v := ?_) (a' := ?_) #[true, true, true, true, true, true, true, true, true, true, true, true, true, true, true, true, true, true, true, true, true, false, false, false, false, false, false, false, false, false, false, false] rfl rfl (any_of rfl (by kernel_rfl)) (fun _ _ _ h => h) (Or.inl ⟨by rfl, ?_⟩) ?_ ?_
  rotate_left
  · intro w'
    go_simp
    with_reducible rfl
  rotate_left
  · simp only [Act.put, List.setIfInBounds_toArray, List.set_cons_zero, List.set_cons_succ, i64_w, i32_w]
    rfl
  refine pure_ (i := 21) (N := some 39) (v := undef) (a' := ?_) #[true, true, true, true, true, true, true, true, true, true, true, true, true, true, true, true, true, true, true, true, true, true, false, false, false, false, false, false, false, false, false, false] rfl rfl (any_of rfl (by kernel_rfl)) (fun _ _ _ h => h) (Or.inr ⟨by rfl, rfl⟩) ?_ ?_
  rotate_left
  · simp only [Act.put, List.setIfInBounds_toArray, List.set_cons_zero, List.set_cons_succ, i64_w, i32_w]
    rfl
  refine pure_ (i := 22) (N := some 40) (v := undef) (a' := ?_) #[true, true, true, true, true, true, true, true, true, true, true, true, true, true, true, true, true, true, true, true, true, true, true, false, false, false, false, false, false, false, false, false] rfl rfl (any_of rfl (by kernel_rfl)) (fun _ _ _ h => h) (Or.inr ⟨by rfl, rfl⟩) ?_ ?_
  rotate_left
  · simp only [Act.put, List.setIfInBounds_toArray, List.set_cons_zero, List.set_cons_succ, i64_w, i32_w]
    rfl
  refine pure_ (i := 23) (N := some 41) (v := undef) (a' := ?_) #[true, true, true, true, true, true, true, true, true, true, true, true, true, true, true, true, true, true, true, true, true, true, true, true, false, false, false, false, false, false, false, false] rfl rfl (any_of rfl (by kernel_rfl)) (fun _ _ _ h => h) (Or.inr ⟨by rfl, rfl⟩) ?_ ?_
  rotate_left
  · simp only [Act.put, List.setIfInBounds_toArray, List.set_cons_zero, List.set_cons_succ, i64_w, i32_w]
    rfl
  refine pure_ (i := 24) (N := some 42) (v := ?_) (a' := ?_) #[true, true, true, true, true, true, true, true, true, true, true, true, true, true, true, true, true, true, true, true, true, true, true, true, true, false, false, false, false, false, false, false] rfl rfl (any_of rfl (by kernel_rfl)) (fun _ _ _ h => h) (Or.inl ⟨by rfl, ?_⟩) ?_ ?_
  rotate_left
  · intro w'
    go_simp
    with_reducible rfl
  rotate_left
  · simp only [Act.put, List.setIfInBounds_toArray, List.set_cons_zero, List.set_cons_succ, i64_w, i32_w]
    rfl
  refine pure_ (i := 25) (N := some 43) (v := ?_) (a' := ?_) #[true, true, true, true, true, true, true, true, true, true, true, true, true, true, true, true, true, true, true, true, true, true, true, true, true, true, false, false, false, false, false, false] rfl rfl (any_of rfl (by kernel_rfl)) (fun _ _ _ h => h) (Or.inl ⟨by rfl, ?_⟩) ?_ ?_
  rotate_left
  · intro w'
    go_simp
    with_reducible rfl
  rotate_left
  · simp only [Act.put, List.setIfInBounds_toArray, List.set_cons_zero, List.set_cons_succ, i64_w, i32_w]
    rfl
  refine pure_ (i := 26) (N := some 44) (v := undef) (a' := ?_) #[true, true, true, true, true, true, true, true, true, true, true, true, true, true, true, true, true, true, true, true, true, true, true, true, true, true, true, false, false, false, false, false] rfl rfl (any_of rfl (by kernel_rfl)) (fun _ _ _ h => h) (Or.inr ⟨by rfl, rfl⟩) ?_ ?_
  rotate_left
  · simp only [Act.put, List.setIfInBounds_toArray, List.set_cons_zero, List.set_cons_succ, i64_w, i32_w]
    rfl
  refine pure_ (i := 27) (N := some 45) (v := undef) (a' := ?_) #[true, true, true, true, true, true, true, true, true, true, true, true, true, true, true, true, true, true, true, true, true, true, true, true, true, true, true, true, false, false, false, false] rfl rfl (any_of rfl (by kernel_rfl)) (fun _ _ _ h => h) (Or.inr ⟨by rfl, rfl⟩) ?_ ?_
  rotate_left
  · simp only [Act.put, List.setIfInBounds_toArray, List.set_cons_zero, List.set_cons_succ, i64_w, i32_w]
    rfl
  refine pure_ (i := 28) (N := some 46) (v := undef) (a' := ?_) #[true, true, true, true, true, true, true, true, true, true, true, true, true, true, true, true, true, true, true, true, true, true, true, true, true, true, true, true, true, false, false, false] rfl rfl (any_of rfl (by kernel_rfl)) (fun _ _ _ h => h) (Or.inr ⟨by rfl, rfl⟩) ?_ ?_
  rotate_left
  · simp only [Act.put, List.setIfInBounds_toArray, List.set_cons_zero, List.set_cons_succ, i64_w, i32_w]
    rfl
  refine pure_ (i := 29) (N := some 47) (v := undef) (a' := ?_) #[true, true, true, true, true, true, true, true, true, true, true, true, true, true, true, true, true, true, true, true, true, true, true, true, true, true, true, true, true, true, false, false] rfl rfl (any_of rfl (by kernel_rfl)) (fun _ _ _ h => h) (Or.inr ⟨by rfl, rfl⟩) ?_ ?_
  rotate_left
  · simp only [Act.put, List.setIfInBounds_toArray, List.set_cons_zero, List.set_cons_succ, i64_w, i32_w]
    rfl
  refine pure_ (i := 30) (N := some 48) (v := undef) (a' := ?_) #[true, true, true, true, true, true, true, true, true, true, true, true, true, true, true, true, true, true, true, true, true, true, true, true, true, true, true, true, true, true, true, false] rfl rfl (any_of rfl (by kernel_rfl)) (fun _ _ _ h => h) (Or.inr ⟨by rfl, rfl⟩) ?_ ?_
  rotate_left
  · simp only [Act.put, List.setIfInBounds_toArray, List.set_cons_zero, List.set_cons_succ, i64_w, i32_w]
    rfl
  refine pure_ (i := 31) (N := some 49) (v := ?_) (a' := ?_) #[true, true, true, true, true, true, true, true, true, true, true, true, true, true, true, true, true, true, true, true, true, true, true, true, true, true, true, true, true, true, true, true] rfl rfl (any_of rfl (by kernel_rfl)) (fun _ _ _ h => h) (Or.inl ⟨by rfl, ?_⟩) ?_ ?_
  rotate_left
  · intro w'
    go_simp
    with_reducible rfl
  rotate_left
  · simp only [Act.put, List.setIfInBounds_toArray, List.set_cons_zero, List.set_cons_succ, i64_w, i32_w]
    rfl
  refine done_ (done_of rfl (by kernel_rfl)) ?_
  go_wp2
  go_ret
  exact ⟨rfl, HB⟩
set_option maxRecDepth 100000 in
set_option maxHeartbeats 4000000 in
theorem ver_bad3 (h1 : l1.length = 18) (h2 : l2.length ≤ 8) (o1 : OddOf w A1 c1 l1 true) :
    Calls Tryd.prog 33 #[.string a0, .string msg, .agg #[.int .i64 idx, .slice A1 l1.length c1, .slice A2 l2.length c2]] w fun e w' => VerTo w false e w' := by
  have d1 : ((l1.length : Int) == 18) = true := beq_iff_eq.mpr (by omega)
  have d2 : ((l1.length : Int) != 18) = false := bne_eq_false_iff_eq.mpr (by omega)
  have d3 : decide (8 < (l2.length : Int)) = false := decide_eq_false (by omega)
  have d4 : decide (8 < l2.length) = false := decide_eq_false (by omega)
  have HO1 := Lib.hid o1
  clear o1
  clear h1 h2
  go_enter Tryd.func33, Tryd.ntmps33
  go_wp2
  have BK := blk_new w (.cells #[.int .i64 idx, .slice A1 l1.length c1, .slice A2 l2.length c2] 35)
  have HB := below_alloc (Below.refl w.heap.size w) (.cells #[.int .i64 idx, .slice A1 l1.length c1, .slice A2 l2.length c2] 35)
  refine start_ (n := 32) (S := fun w' => w'.cell? ⟨w.heap.size, 0, none⟩ = some (.int .i64 idx) ∧ w'.cell? ⟨w.heap.size, 1, none⟩ = some (.slice A1 l1.length c1) ∧ w'.cell? ⟨w.heap.size, 2, none⟩ = some (.slice A2 l2.length c2)) (ds := []) #[false, false, false, false, false, false, false, false, false, false, false, false, false, false, false, false, false, false, false, false, false, false, false, false, false, false, false, false, false, false, false, false] (by kernel_rfl) rfl rfl ⟨(blk_cell (blk_drew BK) 0).trans rfl, (blk_cell (blk_drew BK) 1).trans rfl, (blk_cell (blk_drew BK) 2).trans rfl⟩ (fun hHeld => ?_)
  replace BK := blk_drew BK
  replace HB := below_drew1 HB
  generalize (w.alloc (.cells #[.int .i64 idx, .slice A1 l1.length c1, .slice A2 l2.length c2] 35)).drew = Wd at BK HB hHeld ⊢
  refine pure_ (i := 0) (N := some 18) (v := ?_) (a' := ?_) #[true, false, false, false, false, false, false, false, false, false, false, false, false, false, false, false, false, false, false, false, false, false, false, false, false, false, false, false, false, false, false, false] rfl rfl (any_of rfl (by kernel_rfl)) (fun _ _ _ h => h) (Or.inl ⟨by rfl, ?_⟩) ?_ ?_
  rotate_left
  · intro w'
    go_simp
    with_reducible rfl
  rotate_left
  · simp only [Act.put, List.setIfInBounds_toArray, List.set_cons_zero, List.set_cons_succ, i64_w, i32_w]
    rfl
  refine take_ (i := 1) (N := some 19) (v := ?_) (a' := ?_) #[true, true, false, false, false, false, false, false, false, false, false, false, false, false, false, false, false, false, false, false, false, false, false, false, false, false, false, false, false, false, false, false] rfl rfl (take_of rfl (by kernel_rfl)) (fun _ _ _ h => h) (Or.inl ⟨by rfl, ?_⟩) hHeld ?_ ?_
  rotate_left
  · rintro w' ⟨s0, s1, s2⟩
    go_simp
    with_reducible rfl
  rotate_left
  · simp only [Act.put, List.setIfInBounds_toArray, List.set_cons_zero, List.set_cons_succ, i64_w, i32_w]
    rfl
  refine pure_ (i := 2) (N := some 20) (v := ?_) (a' := ?_) #[true, true, true, false, false, false, false, false, false, false, false, false, false, false, false, false, false, false, false, false, false, false, false, false, false, false, false, false, false, false, false, false] rfl rfl (any_of rfl (by kernel_rfl)) (fun _ _ _ h => h) (Or.inl ⟨by rfl, ?_⟩) ?_ ?_
  rotate_left
  · intro w'
    go_simp
    with_reducible rfl
  rotate_left
  · simp only [Act.put, List.setIfInBounds_toArray, List.set_cons_zero, List.set_cons_succ, i64_w, i32_w]
    rfl
  refine pure_ (i := 3) (N := some 21) (v := ?_) (a' := ?_) #[true, true, true, true, false, false, false, false, false, false, false, false, false, false, false, false, false, false, false, false, false, false, false, false, false, false, false, false, false, false, false, false] rfl rfl (any_of rfl (by kernel_rfl)) (fun _ _ _ h => h) (Or.inl ⟨by rfl, ?_⟩) ?_ ?_
  rotate_left
  · intro w'
    go_simp
    with_reducible rfl
  rotate_left
  · simp only [Act.put, List.setIfInBounds_toArray, List.set_cons_zero, List.set_cons_succ, i64_w, i32_w]
    rfl
  refine pure_ (i := 4) (N := some 22) (v := ?_) (a' := ?_) #[true, true, true, true, true, false, false, false, false, false, false, false, false, false, false, false, false, false, false, false, false, false, false, false, false, false, false, false, false, false, false, false] rfl rfl (any_of rfl (by kernel_rfl)) (fun _ _ _ h => h) (Or.inl ⟨by rfl, ?_⟩) ?_ ?_
  rotate_left
  · intro w'
    go_simp
    with_reducible rfl
  rotate_left
  · simp only [Act.put, List.setIfInBounds_toArray, List.set_cons_zero, List.set_cons_succ, i64_w, i32_w]
    rfl
  refine pure_ (i := 5) (N := some 23) (v := ?_) (a' := ?_) #[true, true, true, true, true, true, false, false, false, false, false, false, false, false, false, false, false, false, false, false, false, false, false, false, false, false, false, false, false, false, false, false] rfl rfl (any_of rfl (by kernel_rfl)) (fun _ _ _ h => h) (Or.inl ⟨by rfl, ?_⟩) ?_ ?_
  rotate_left
  · intro w'
    go_simp
    with_reducible rfl
  rotate_left
  · simp only [Act.put, List.setIfInBounds_toArray, List.set_cons_zero, List.set_cons_succ, i64_w, i32_w]
    rfl
  refine pure_ (i := 6) (N := some 24) (v := ?_) (a' := ?_) #[true, true, true, true, true, true, true, false, false, false, false, false, false, false, false, false, false, false, false, false, false, false, false, false, false, false, false, false, false, false, false, false] rfl rfl (any_of rfl (by kernel_rfl)) (fun _ _ _ h => h) (Or.inl ⟨by rfl, ?_⟩) ?_ ?_
  rotate_left
  · intro w'
    go_simp
    with_reducible rfl
  rotate_left
  · simp only [Act.put, List.setIfInBounds_toArray, List.set_cons_zero, List.set_cons_succ, i64_w, i32_w]
    rfl
  refine pure_ (i := 7) (N := some 25) (v := ?_) (a' := ?_) #[true, true, true, true, true, true, true, true, false, false, false, false, false, false, false, false, false, false, false, false, false, false, false, false, false, false, false, false, false, false, false, false] rfl rfl (any_of rfl (by kernel_rfl)) (fun _ _ _ h => h) (Or.inl ⟨by rfl, ?_⟩) ?_ ?_
  rotate_left
  · intro w'
    go_simp
    with_reducible rfl
  rotate_left
  · simp only [Act.put, List.setIfInBounds_toArray, List.set_cons_zero, List.set_cons_succ, i64_w, i32_w]
    rfl
  refine pure_ (i := 8) (N := some 26) (v := ?_) (a' := ?_) #[true, true, true, true, true, true, true, true, true, false, false, false, false, false, false, false, false, false, false, false, false, false, false, false, false, false, false, false, false, false, false, false] rfl rfl (any_of rfl (by kernel_rfl)) (fun _ _ _ h => h) (Or.inl ⟨by rfl, ?_⟩) ?_ ?_
  rotate_left
  · intro w'
    go_simp
    with_reducible rfl
  rotate_left
  · simp only [Act.put, List.setIfInBounds_toArray, List.set_cons_zero, List.set_cons_succ, i64_w, i32_w]
    rfl
  refine pure_ (i := 9) (N := some 27) (v := ?_) (a' := ?_) #[true, true, true, true, true, true, true, true, true, true, false, false, false, false, false, false, false, false, false, false, false, false, false, false, false, false, false, false, false, false, false, false] rfl rfl (any_of rfl (by kernel_rfl)) (fun _ _ _ h => h) (Or.inl ⟨by rfl, ?_⟩) ?_ ?_
  rotate_left
  · intro w'
    go_simp
    with_reducible rfl
  rotate_left
  · simp only [Act.put, List.setIfInBounds_toArray, List.set_cons_zero, List.set_cons_succ, i64_w, i32_w]
    rfl
  refine pure_ (i := 10) (N := some 28) (v := ?_) (a' := ?_) #[true, true, true, true, true, true, true, true, true, true, true, false, false, false, false, false, false, false, false, false, false, false, false, false, false, false, false, false, false, false, false, false] rfl rfl (any_of rfl (by kernel_rfl)) (fun _ _ _ h => h) (Or.inl ⟨by rfl, ?_⟩) ?_ ?_
  rotate_left
  · intro w'
    go_simp
    with_reducible rfl
  rotate_left
  · simp only [Act.put, List.setIfInBounds_toArray, List.set_cons_zero, List.set_cons_succ, i64_w, i32_w]
    rfl
  refine take_ (i := 11) (N := some 29) (v := ?_) (a' := ?_) #[true, true, true, true, true, true, true, true, true, true, true, true, false, false, false, false, false, false, false, false, false, false, false, false, false, false, false, false, false, false, false, false] rfl rfl (take_of rfl (by kernel_rfl)) (fun _ _ _ h => h) (Or.inl ⟨by rfl, ?_⟩) hHeld ?_ ?_
  rotate_left
  · rintro w' ⟨s0, s1, s2⟩
    go_simp
    with_reducible rfl
  rotate_left
  · simp only [Act.put, List.setIfInBounds_toArray, List.set_cons_zero, List.set_cons_succ, i64_w, i32_w]
    rfl
  refine one_ (i := 12) (N := some 30) #[true, true, true, true, true, true, true, true, true, true, true, true, true, false, false, false, false, false, false, false, false, false, false, false, false, false, false, false, false, false, false, false] rfl rfl (one_of rfl (by kernel_rfl)) (by decide) (fun K hK => ?_)
  refine goesV_ 60 Tryd.func60 (by kernel_rfl) rfl #[.slice A1 l1.length c1] (by rfl) rfl rfl rfl (by (try simp only [List.map_toArray, List.map_cons, List.map_nil]); first | done | rfl) ?_
  refine ((HO1.out Wd HB).mono ?_)
  rintro e W1 ⟨rfl, hb⟩
  refine ⟨_, rfl, ?_⟩
  replace BK := blk_below BK hb
  replace HB := HB.trans (hb.mono HB.size)
  refine hK.out _ _ ⟨(blk_cell BK 0).trans rfl, (blk_cell BK 1).trans rfl, (blk_cell BK 2).trans rfl⟩ (fun hHeld1 => ?_)
  clear hHeld hb
  have hHeld := hHeld1
  clear hHeld1
  clear hK K
  refine norm_ (a' := ?_) ?_ ?_
  rotate_left
  · show Act.put _ (some 30) _ = _
    simp only [Act.put, List.setIfInBounds_toArray, List.set_cons_zero, List.set_cons_succ, i64_w, i32_w]
    rfl
  refine pure_ (i := 13) (N := some 31) (v := ?_) (a' := ?_) #[true, true, true, true, true, true, true, true, true, true, true, true, true, true, false, false, false, false, false, false, false, false, false, false, false, false, false, false, false, false, false, false] rfl rfl (any_of rfl (by kernel_rfl)) (fun _ _ _ h => h) (Or.inl ⟨by rfl, ?_⟩) ?_ ?_
  rotate_left
  · intro w'
    go_simp
    with_reducible rfl
  rotate_left
  · simp only [Act.put, List.setIfInBounds_toArray, List.set_cons_zero, List.set_cons_succ, i64_w, i32_w]
    rfl
  refine pure_ (i := 14) (N := some 32) (v := ?_) (a' := ?_) #[true, true, true, true, true, true, true, true, true, true, true, true, true, true, true, false, false, false, false, false, false, false, false, false, false, false, false, false, false, false, false, false] rfl rfl (any_of rfl (by kernel_rfl)) (fun _ _ _ h => h) (Or.inl ⟨by rfl, ?_⟩) ?_ ?_
  rotate_left
  · intro w'
    go_simp
    with_reducible rfl
  rotate_left
  · simp only [Act.put, List.setIfInBounds_toArray, List.set_cons_zero, List.set_cons_succ, i64_w, i32_w]
    rfl
  refine pure_ (i := 15) (N := some 33) (v := undef) (a' := ?_) #[true, true, true, true, true, true, true, true, true, true, true, true, true, true, true, true, false, false, false, false, false, false, false, false, false, false, false, false, false, false, false, false] rfl rfl (any_of rfl (by kernel_rfl)) (fun _ _ _ h => h) (Or.inr ⟨by rfl, rfl⟩) ?_ ?_
  rotate_left
  · simp only [Act.put, List.setIfInBounds_toArray, List.set_cons_zero, List.set_cons_succ, i64_w, i32_w]
    rfl
  refine pure_ (i := 16) (N := some 34) (v := undef) (a' := ?_) #[true, true, true, true, true, true, true, true, true, true, true, true, true, true, true, true, true, false, false, false, false, false, false, false, false, false, false, false, false, false, false, false] rfl rfl (any_of rfl (by kernel_rfl)) (fun _ _ _ h => h) (Or.inr ⟨by rfl, rfl⟩) ?_ ?_
  rotate_left
  · simp only [Act.put, List.setIfInBounds_toArray, List.set_cons_zero, List.set_cons_succ, i64_w, i32_w]
    rfl
  refine pure_ (i := 17) (N := some 35) (v := undef) (a' := ?_) #[true, true, true, true, true, true, true, true, true, true, true, true, true, true, true, true, true, true, false, false, false, false, false, false, false, false, false, false, false, false, false, false] rfl rfl (any_of rfl (by kernel_rfl)) (fun _ _ _ h => h) (Or.inr ⟨by rfl, rfl⟩) ?_ ?_
  rotate_left
  · simp only [Act.put, List.setIfInBounds_toArray, List.set_cons_zero, List.set_cons_succ, i64_w, i32_w]
    rfl
  refine pure_ (i := 18) (N := some 36) (v := undef) (a' := ?_) #[true, true, true, true, true, true, true, true, true, true, true, true, true, true, true, true, true, true, true, false, false, false, false, false, false, false, false, false, false, false, false, false] rfl rfl (any_of rfl (by kernel_rfl)) (fun _ _ _ h => h) (Or.inr ⟨by rfl, rfl⟩) ?_ ?_
  rotate_left
  · simp only [Act.put, List.setIfInBounds_toArray, List.set_cons_zero, List.set_cons_succ, i64_w, i32_w]
    rfl
  refine pure_ (i := 19) (N := some 37) (v := ?_) (a' := ?_) #[true, true, true, true, true, true, true, true, true, true, true, true, true, true, true, true, true, true, true, true, false, false, false, false, false, false, false, false, false, false, false, false] rfl rfl (any_of rfl (by kernel_rfl)) (fun _ _ _ h => h) (Or.inl ⟨by rfl, ?_⟩) ?_ ?_
  rotate_left
  · intro w'
    go_simp
    with_reducible rfl
  rotate_left
  · simp only [Act.put, List.setIfInBounds_toArray, List.set_cons_zero, List.set_cons_succ, i64_w, i32_w]
    rfl
  refine pure_ (i := 20) (N := some 38) (v := ?_) (a' := ?_) #[true, true, true, true, true, true, true, true, true, true, true, true, true, true, true, true, true, true, true, true, true, false, false, false, false, false, false, false, false, false, false, false] rfl rfl (any_of rfl (by kernel_rfl)) (fun _ _ _ h => h) (Or.inl ⟨by rfl, ?_⟩) ?_ ?_
  rotate_left
  · intro w'
    go_simp
    with_reducible rfl
  rotate_left
  · simp only [Act.put, List.setIfInBounds_toArray, List.set_cons_zero, List.set_cons_succ, i64_w, i32_w]
    rfl
  refine pure_ (i := 21) (N := some 39) (v := undef) (a' := ?_) #[true, true, true, true, true, true, true, true, true, true, true, true, true, true, true, true, true, true, true, true, true, true, false, false, false, false, false, false, false, false, false, false] rfl rfl (any_of rfl (by kernel_rfl)) (fun _ _ _ h => h) (Or.inr ⟨by rfl, rfl⟩) ?_ ?_
  rotate_left
  · simp only [Act.put, List.setIfInBounds_toArray, List.set_cons_zero, List.set_cons_succ, i64_w, i32_w]
    rfl
  refine pure_ (i := 22) (N := some 40) (v := undef) (a' := ?_) #[true, true, true, true, true, true, true, true, true, true, true, true, true, true, true, true, true, true, true, true, true, true, true, false, false, false, false, false, false, false, false, false] rfl rfl (any_of rfl (by kernel_rfl)) (fun _ _ _ h => h) (Or.inr ⟨by rfl, rfl⟩) ?_ ?_
  rotate_left
  · simp only [Act.put, List.setIfInBounds_toArray, List.set_cons_zero, List.set_cons_succ, i64_w, i32_w]
    rfl
  refine pure_ (i := 23) (N := some 41) (v := undef) (a' := ?_) #[true, true, true, true, true, true, true, true, true, true, true, true, true, true, true, true, true, true, true, true, true, true, true, true, false, false, false, false, false, false, false, false] rfl rfl (any_of rfl (by kernel_rfl)) (fun _ _ _ h => h) (Or.inr ⟨by rfl, rfl⟩) ?_ ?_
  rotate_left
  · simp only [Act.put, List.setIfInBounds_toArray, List.set_cons_zero, List.set_cons_succ, i64_w, i32_w]
    rfl
  refine pure_ (i := 24) (N := some 42) (v := ?_) (a' := ?_) #[true, true, true, true, true, true, true, true, true, true, true, true, true, true, true, true, true, true, true, true, true, true, true, true, true, false, false, false, false, false, false, false] rfl rfl (any_of rfl (by kernel_rfl)) (fun _ _ _ h => h) (Or.inl ⟨by rfl, ?_⟩) ?_ ?_
  rotate_left
  · intro w'
    go_simp
    with_reducible rfl
  rotate_left
  · simp only [Act.put, List.setIfInBounds_toArray, List.set_cons_zero, List.set_cons_succ, i64_w, i32_w]
    rfl
  refine pure_ (i := 25) (N := some 43) (v := ?_) (a' := ?_) #[true, true, true, true, true, true, true, true, true, true, true, true, true, true, true, true, true, true, true, true, true, true, true, true, true, true, false, false, false, false, false, false] rfl rfl (any_of rfl (by kernel_rfl)) (fun _ _ _ h => h) (Or.inl ⟨by rfl, ?_⟩) ?_ ?_
  rotate_left
  · intro w'
    go_simp
    with_reducible rfl
  rotate_left
  · simp only [Act.put, List.setIfInBounds_toArray, List.set_cons_zero, List.set_cons_succ, i64_w, i32_w]
    rfl
  refine pure_ (i := 26) (N := some 44) (v := undef) (a' := ?_) #[true, true, true, true, true, true, true, true, true, true, true, true, true, true, true, true, true, true, true, true, true, true, true, true, true, true, true, false, false, false, false, false] rfl rfl (any_of rfl (by kernel_rfl)) (fun _ _ _ h => h) (Or.inr ⟨by rfl, rfl⟩) ?_ ?_
  rotate_left
  · simp only [Act.put, List.setIfInBounds_toArray, List.set_cons_zero, List.set_cons_succ, i64_w, i32_w]
    rfl
  refine pure_ (i := 27) (N := some 45) (v := undef) (a' := ?_) #[true, true, true, true, true, true, true, true, true, true, true, true, true, true, true, true, true, true, true, true, true, true, true, true, true, true, true, true, false, false, false, false] rfl rfl (any_of rfl (by kernel_rfl)) (fun _ _ _ h => h) (Or.inr ⟨by rfl, rfl⟩) ?_ ?_
  rotate_left
  · simp only [Act.put, List.setIfInBounds_toArray, List.set_cons_zero, List.set_cons_succ, i64_w, i32_w]
    rfl
  refine pure_ (i := 28) (N := some 46) (v := undef) (a' := ?_) #[true, true, true, true, true, true, true, true, true, true, true, true, true, true, true, true, true, true, true, true, true, true, true, true, true, true, true, true, true, false, false, false] rfl rfl (any_of rfl (by kernel_rfl)) (fun _ _ _ h => h) (Or.inr ⟨by rfl, rfl⟩) ?_ ?_
  rotate_left
  · simp only [Act.put, List.setIfInBounds_toArray, List.set_cons_zero, List.set_cons_succ, i64_w, i32_w]
    rfl
  refine pure_ (i := 29) (N := some 47) (v := undef) (a' := ?_) #[true, true, true, true, true, true, true, true, true, true, true, true, true, true, true, true, true, true, true, true, true, true, true, true, true, true, true, true, true, true, false, false] rfl rfl (any_of rfl (by kernel_rfl)) (fun _ _ _ h => h) (Or.inr ⟨by rfl, rfl⟩) ?_ ?_
  rotate_left
  · simp only [Act.put, List.setIfInBounds_toArray, List.set_cons_zero, List.set_cons_succ, i64_w, i32_w]
    rfl
  refine pure_ (i := 30) (N := some 48) (v := undef) (a' := ?_) #[true, true, true, true, true, true, true, true, true, true, true, true, true, true, true, true, true, true, true, true, true, true, true, true, true, true, true, true, true, true, true, false] rfl rfl (any_of rfl (by kernel_rfl)) (fun _ _ _ h => h) (Or.inr ⟨by rfl, rfl⟩) ?_ ?_
  rotate_left
  · simp only [Act.put, List.setIfInBounds_toArray, List.set_cons_zero, List.set_cons_succ, i64_w, i32_w]
    rfl
  refine pure_ (i := 31) (N := some 49) (v := ?_) (a' := ?_) #[true, true, true, true, true, true, true, true, true, true, true, true, true, true, true, true, true, true, true, true, true, true, true, true, true, true, true, true, true, true, true, true] rfl rfl (any_of rfl (by kernel_rfl)) (fun _ _ _ h => h) (Or.inl ⟨by rfl, ?_⟩) ?_ ?_
  rotate_left
  · intro w'
    go_simp
    with_reducible rfl
  rotate_left
  · simp only [Act.put, List.setIfInBounds_toArray, List.set_cons_zero, List.set_cons_succ, i64_w, i32_w]
    rfl
  refine done_ (done_of rfl (by kernel_rfl)) ?_
  go_wp2
  go_ret
  exact ⟨rfl, HB⟩
set_option maxRecDepth 100000 in
set_option maxHeartbeats 4000000 in
theorem ver_bad4 (h1 : l1.length = 18) (h2 : l2.length ≤ 8) (o1 : OddOf w A1 c1 l1 false) (o2 : OddOf w A2 c2 l2 true) :
    Calls Tryd.prog 33 #[.string a0, .string msg, .agg #[.int .i64 idx, .slice A1 l1.length c1, .slice A2 l2.length c2]] w fun e w' => VerTo w false e w' := by
  have d1 : ((l1.length : Int) == 18) = true := beq_iff_eq.mpr (by omega)
  have d2 : ((l1.length : Int) != 18) = false := bne_eq_false_iff_eq.mpr (by omega)
  have d3 : decide (8 < (l2.length : Int)) = false := decide_eq_false (by omega)
  have d4 : decide (8 < l2.length) = false := decide_eq_false (by omega)
  have HO1 := Lib.hid o1
  clear o1
  have HO2 := Lib.hid o2
  clear o2
  clear h1 h2
  go_enter Tryd.func33, Tryd.ntmps33
  go_wp2
  have BK := blk_new w (.cells #[.int .i64 idx, .slice A1 l1.length c1, .slice A2 l2.length c2] 35)
  have HB := below_alloc (Below.refl w.heap.size w) (.cells #[.int .i64 idx, .slice A1 l1.length c1, .slice A2 l2.length c2] 35)
  refine start_ (n := 32) (S := fun w' => w'.cell? ⟨w.heap.size, 0, none⟩ = some (.int .i64 idx) ∧ w'.cell? ⟨w.heap.size, 1, none⟩ = some (.slice A1 l1.length c1) ∧ w'.cell? ⟨w.heap.size, 2, none⟩ = some (.slice A2 l2.length c2)) (ds := []) #[false, false, false, false, false, false, false, false, false, false, false, false, false, false, false, false, false, false, false, false, false, false, false, false, false, false, false, false, false, false, false, false] (by kernel_rfl) rfl rfl ⟨(blk_cell (blk_drew BK) 0).trans rfl, (blk_cell (blk_drew BK) 1).trans rfl, (blk_cell (blk_drew BK) 2).trans rfl⟩ (fun hHeld => ?_)
  replace BK := blk_drew BK
  replace HB := below_drew1 HB
  generalize (w.alloc (.cells #[.int .i64 idx, .slice A1 l1.length c1, .slice A2 l2.length c2] 35)).drew = Wd at BK HB hHeld ⊢
  refine pure_ (i := 0) (N := some 18) (v := ?_) (a' := ?_) #[true, false, false, false, false, false, false, false, false, false, false, false, false, false, false, false, false, false, false, false, false, false, false, false, false, false, false, false, false, false, false, false] rfl rfl (any_of rfl (by kernel_rfl)) (fun _ _ _ h => h) (Or.inl ⟨by rfl, ?_⟩) ?_ ?_
  rotate_left
  · intro w'
    go_simp
    with_reducible rfl
  rotate_left
  · simp only [Act.put, List.setIfInBounds_toArray, List.set_cons_zero, List.set_cons_succ, i64_w, i32_w]
    rfl
  refine take_ (i := 1) (N := some 19) (v := ?_) (a' := ?_) #[true, true, false, false, false, false, false, false, false, false, false, false, false, false, false, false, false, false, false, false, false, false, false, false, false, false, false, false, false, false, false, false] rfl rfl (take_of rfl (by kernel_rfl)) (fun _ _ _ h => h) (Or.inl ⟨by rfl, ?_⟩) hHeld ?_ ?_
  rotate_left
  · rintro w' ⟨s0, s1, s2⟩
    go_simp
    with_reducible rfl
  rotate_left
  · simp only [Act.put, List.setIfInBounds_toArray, List.set_cons_zero, List.set_cons_succ, i64_w, i32_w]
    rfl
  refine pure_ (i := 2) (N := some 20) (v := ?_) (a' := ?_) #[true, true, true, false, false, false, false, false, false, false, false, false, false, false, false, false, false, false, false, false, false, false, false, false, false, false, false, false, false, false, false, false] rfl rfl (any_of rfl (by kernel_rfl)) (fun _ _ _ h => h) (Or.inl ⟨by rfl, ?_⟩) ?_ ?_
  rotate_left
  · intro w'
    go_simp
    with_reducible rfl
  rotate_left
  · simp only [Act.put, List.setIfInBounds_toArray, List.set_cons_zero, List.set_cons_succ, i64_w, i32_w]
    rfl
  refine pure_ (i := 3) (N := some 21) (v := ?_) (a' := ?_) #[true, true, true, true, false, false, false, false, false, false, false, false, false, false, false, false, false, false, false, false, false, false, false, false, false, false, false, false, false, false, false, false] rfl rfl (any_of rfl (by kernel_rfl)) (fun _ _ _ h => h) (Or.inl ⟨by rfl, ?_⟩) ?_ ?_
  rotate_left
  · intro w'
    go_simp
    with_reducible rfl
  rotate_left
  · simp only [Act.put, List.setIfInBounds_toArray, List.set_cons_zero, List.set_cons_succ, i64_w, i32_w]
    rfl
  refine pure_ (i := 4) (N := some 22) (v := ?_) (a' := ?_) #[true, true, true, true, true, false, false, false, false, false, false, false, false, false, false, false, false, false, false, false, false, false, false, false, false, false, false, false, false, false, false, false] rfl rfl (any_of rfl (by kernel_rfl)) (fun _ _ _ h => h) (Or.inl ⟨by rfl, ?_⟩) ?_ ?_
  rotate_left
  · intro w'
    go_simp
    with_reducible rfl
  rotate_left
  · simp only [Act.put, List.setIfInBounds_toArray, List.set_cons_zero, List.set_cons_succ, i64_w, i32_w]
    rfl
  refine pure_ (i := 5) (N := some 23) (v := ?_) (a' := ?_) #[true, true, true, true, true, true, false, false, false, false, false, false, false, false, false, false, false, false, false, false, false, false, false, false, false, false, false, false, false, false, false, false] rfl rfl (any_of rfl (by kernel_rfl)) (fun _ _ _ h => h) (Or.inl ⟨by rfl, ?_⟩) ?_ ?_
  rotate_left
  · intro w'
    go_simp
    with_reducible rfl
  rotate_left
  · simp only [Act.put, List.setIfInBounds_toArray, List.set_cons_zero, List.set_cons_succ, i64_w, i32_w]
    rfl
  refine pure_ (i := 6) (N := some 24) (v := ?_) (a' := ?_) #[true, true, true, true, true, true, true, false, false, false, false, false, false, false, false, false, false, false, false, false, false, false, false, false, false, false, false, false, false, false, false, false] rfl rfl (any_of rfl (by kernel_rfl)) (fun _ _ _ h => h) (Or.inl ⟨by rfl, ?_⟩) ?_ ?_
  rotate_left
  · intro w'
    go_simp
    with_reducible rfl
  rotate_left
  · simp only [Act.put, List.setIfInBounds_toArray, List.set_cons_zero, List.set_cons_succ, i64_w, i32_w]
    rfl
  refine pure_ (i := 7) (N := some 25) (v := ?_) (a' := ?_) #[true, true, true, true, true, true, true, true, false, false, false, false, false, false, false, false, false, false, false, false, false, false, false, false, false, false, false, false, false, false, false, false] rfl rfl (any_of rfl (by kernel_rfl)) (fun _ _ _ h => h) (Or.inl ⟨by rfl, ?_⟩) ?_ ?_
  rotate_left
  · intro w'
    go_simp
    with_reducible rfl
  rotate_left
  · simp only [Act.put, List.setIfInBounds_toArray, List.set_cons_zero, List.set_cons_succ, i64_w, i32_w]
    rfl
  refine pure_ (i := 8) (N := some 26) (v := ?_) (a' := ?_) #[true, true, true, true, true, true, true, true, true, false, false, false, false, false, false, false, false, false, false, false, false, false, false, false, false, false, false, false, false, false, false, false] rfl rfl (any_of rfl (by kernel_rfl)) (fun _ _ _ h => h) (Or.inl ⟨by rfl, ?_⟩) ?_ ?_
  rotate_left
  · intro w'
    go_simp
    with_reducible rfl
  rotate_left
  · simp only [Act.put, List.setIfInBounds_toArray, List.set_cons_zero, List.set_cons_succ, i64_w, i32_w]
    rfl
  refine pure_ (i := 9) (N := some 27) (v := ?_) (a' := ?_) #[true, true, true, true, true, true, true, true, true, true, false, false, false, false, false, false, false, false, false, false, false, false, false, false, false, false, false, false, false, false, false, false] rfl rfl (any_of rfl (by kernel_rfl)) (fun _ _ _ h => h) (Or.inl ⟨by rfl, ?_⟩) ?_ ?_
  rotate_left
  · intro w'
    go_simp
    with_reducible rfl
  rotate_left
  · simp only [Act.put, List.setIfInBounds_toArray, List.set_cons_zero, List.set_cons_succ, i64_w, i32_w]
    rfl
  refine pure_ (i := 10) (N := some 28) (v := ?_) (a' := ?_) #[true, true, true, true, true, true, true, true, true, true, true, false, false, false, false, false, false, false, false, false, false, false, false, false, false, false, false, false, false, false, false, false] rfl rfl (any_of rfl (by kernel_rfl)) (fun _ _ _ h => h) (Or.inl ⟨by rfl, ?_⟩) ?_ ?_
  rotate_left
  · intro w'
    go_simp
    with_reducible rfl
  rotate_left
  · simp only [Act.put, List.setIfInBounds_toArray, List.set_cons_zero, List.set_cons_succ, i64_w, i32_w]
    rfl
  refine take_ (i := 11) (N := some 29) (v := ?_) (a' := ?_) #[true, true, true, true, true, true, true, true, true, true, true, true, false, false, false, false, false, false, false, false, false, false, false, false, false, false, false, false, false, false, false, false] rfl rfl (take_of rfl (by kernel_rfl)) (fun _ _ _ h => h) (Or.inl ⟨by rfl, ?_⟩) hHeld ?_ ?_
  rotate_left
  · rintro w' ⟨s0, s1, s2⟩
    go_simp
    with_reducible rfl
  rotate_left
  · simp only [Act.put, List.setIfInBounds_toArray, List.set_cons_zero, List.set_cons_succ, i64_w, i32_w]
    rfl
  refine one_ (i := 12) (N := some 30) #[true, true, true, true, true, true, true, true, true, true, true, true, true, false, false, false, false, false, false, false, false, false, false, false, false, false, false, false, false, false, false, false] rfl rfl (one_of rfl (by kernel_rfl)) (by decide) (fun K hK => ?_)
  refine goesV_ 60 Tryd.func60 (by kernel_rfl) rfl #[.slice A1 l1.length c1] (by rfl) rfl rfl rfl (by (try simp only [List.map_toArray, List.map_cons, List.map_nil]); first | done | rfl) ?_
  refine ((HO1.out Wd HB).mono ?_)
  rintro e W1 ⟨rfl, hb⟩
  refine ⟨_, rfl, ?_⟩
  replace BK := blk_below BK hb
  replace HB := HB.trans (hb.mono HB.size)
  refine hK.out _ _ ⟨(blk_cell BK 0).trans rfl, (blk_cell BK 1).trans rfl, (blk_cell BK 2).trans rfl⟩ (fun hHeld1 => ?_)
  clear hHeld hb
  have hHeld := hHeld1
  clear hHeld1
  clear hK K
  refine norm_ (a' := ?_) ?_ ?_
  rotate_left
  · show Act.put _ (some 30) _ = _
    simp only [Act.put, List.setIfInBounds_toArray, List.set_cons_zero, List.set_cons_succ, i64_w, i32_w]
    rfl
  refine pure_ (i := 13) (N := some 31) (v := ?_) (a' := ?_) #[true, true, true, true, true, true, true, true, true, true, true, true, true, true, false, false, false, false, false, false, false, false, false, false, false, false, false, false, false, false, false, false] rfl rfl (any_of rfl (by kernel_rfl)) (fun _ _ _ h => h) (Or.inl ⟨by rfl, ?_⟩) ?_ ?_
  rotate_left
  · intro w'
    go_simp
    with_reducible rfl
  rotate_left
  · simp only [Act.put, List.setIfInBounds_toArray, List.set_cons_zero, List.set_cons_succ, i64_w, i32_w]
    rfl
  refine pure_ (i := 14) (N := some 32) (v := ?_) (a' := ?_) #[true, true, true, true, true, true, true, true, true, true, true, true, true, true, true, false, false, false, false, false, false, false, false, false, false, false, false, false, false, false, false, false] rfl rfl (any_of rfl (by kernel_rfl)) (fun _ _ _ h => h) (Or.inl ⟨by rfl, ?_⟩) ?_ ?_
  rotate_left
  · intro w'
    go_simp
    with_reducible rfl
  rotate_left
  · simp only [Act.put, List.setIfInBounds_toArray, List.set_cons_zero, List.set_cons_succ, i64_w, i32_w]
    rfl
  refine pure_ (i := 15) (N := some 33) (v := ?_) (a' := ?_) #[true, true, true, true, true, true, true, true, true, true, true, true, true, true, true, true, false, false, false, false, false, false, false, false, false, false, false, false, false, false, false, false] rfl rfl (any_of rfl (by kernel_rfl)) (fun _ _ _ h => h) (Or.inl ⟨by rfl, ?_⟩) ?_ ?_
  rotate_left
  · intro w'
    go_simp
    with_reducible rfl
  rotate_left
  · simp only [Act.put, List.setIfInBounds_toArray, List.set_cons_zero, List.set_cons_succ, i64_w, i32_w]
    rfl
  refine pure_ (i := 16) (N := some 34) (v := ?_) (a' := ?_) #[true, true, true, true, true, true, true, true, true, true, true, true, true, true, true, true, true, false, false, false, false, false, false, false, false, false, false, false, false, false, false, false] rfl rfl (any_of rfl (by kernel_rfl)) (fun _ _ _ h => h) (Or.inl ⟨by rfl, ?_⟩) ?_ ?_
  rotate_left
  · intro w'
    go_simp
    with_reducible rfl
  rotate_left
  · simp only [Act.put, List.setIfInBounds_toArray, List.set_cons_zero, List.set_cons_succ, i64_w, i32_w]
    rfl
  refine take_ (i := 17) (N := some 35) (v := ?_) (a' := ?_) #[true, true, true, true, true, true, true, true, true, true, true, true, true, true, true, true, true, true, false, false, false, false, false, false, false, false, false, false, false, false, false, false] rfl rfl (take_of rfl (by kernel_rfl)) (fun _ _ _ h => h) (Or.inl ⟨by rfl, ?_⟩) hHeld ?_ ?_
  rotate_left
  · rintro w' ⟨s0, s1, s2⟩
    go_simp
    with_reducible rfl
  rotate_left
  · simp only [Act.put, List.setIfInBounds_toArray, List.set_cons_zero, List.set_cons_succ, i64_w, i32_w]
    rfl
  refine one_ (i := 18) (N := some 36) #[true, true, true, true, true, true, true, true, true, true, true, true, true, true, true, true, true, true, true, false, false, false, false, false, false, false, false, false, false, false, false, false] rfl rfl (one_of rfl (by kernel_rfl)) (by decide) (fun K hK => ?_)
  refine goesV_ 60 Tryd.func60 (by kernel_rfl) rfl #[.slice A2 l2.length c2] (by rfl) rfl rfl rfl (by (try simp only [List.map_toArray, List.map_cons, List.map_nil]); first | done | rfl) ?_
  refine ((HO2.out W1 HB).mono ?_)
  rintro e W2 ⟨rfl, hb⟩
  refine ⟨_, rfl, ?_⟩
  replace BK := blk_below BK hb
  replace HB := HB.trans (hb.mono HB.size)
  refine hK.out _ _ ⟨(blk_cell BK 0).trans rfl, (blk_cell BK 1).trans rfl, (blk_cell BK 2).trans rfl⟩ (fun hHeld1 => ?_)
  clear hHeld hb
  have hHeld := hHeld1
  clear hHeld1
  clear hK K
  refine norm_ (a' := ?_) ?_ ?_
  rotate_left
  · show Act.put _ (some 36) _ = _
    simp only [Act.put, List.setIfInBounds_toArray, List.set_cons_zero, List.set_cons_succ, i64_w, i32_w]
    rfl
  refine pure_ (i := 19) (N := some 37) (v := ?_) (a' := ?_) #[true, true, true, true, true, true, true, true, true, true, true, true, true, true, true, true, true, true, true, true, false, false, false, false, false, false, false, false, false, false, false, false] rfl rfl (any_of rfl (by kernel_rfl)) (fun _ _ _ h => h) (Or.inl ⟨by rfl, ?_⟩) ?_ ?_
  rotate_left
  · intro w'
    go_simp
    with_reducible rfl
  rotate_left
  · simp only [Act.put, List.setIfInBounds_toArray, List.set_cons_zero, List.set_cons_succ, i64_w, i32_w]
    rfl
  refine pure_ (i := 20) (N := some 38) (v := ?_) (a' := ?_) #[true, true, true, true, true, true, true, true, true, true, true, true, true, true, true, true, true, true, true, true, true, false, false, false, false, false, false, false, false, false, false, false] rfl rfl (any_of rfl (by kernel_rfl)) (fun _ _ _ h => h) (Or.inl ⟨by rfl, ?_⟩) ?_ ?_
  rotate_left
  · intro w'
    go_simp
    with_reducible rfl
  rotate_left
  · simp only [Act.put, List.setIfInBounds_toArray, List.set_cons_zero, List.set_cons_succ, i64_w, i32_w]
    rfl
  refine pure_ (i := 21) (N := some 39) (v := undef) (a' := ?_) #[true, true, true, true, true, true, true, true, true, true, true, true, true, true, true, true, true, true, true, true, true, true, false, false, false, false, false, false, false, false, false, false] rfl rfl (any_of rfl (by kernel_rfl)) (fun _ _ _ h => h) (Or.inr ⟨by rfl, rfl⟩) ?_ ?_
  rotate_left
  · simp only [Act.put, List.setIfInBounds_toArray, List.set_cons_zero, List.set_cons_succ, i64_w, i32_w]
    rfl
  refine pure_ (i := 22) (N := some 40) (v := undef) (a' := ?_) #[true, true, true, true, true, true, true, true, true, true, true, true, true, true, true, true, true, true, true, true, true, true, true, false, false, false, false, false, false, false, false, false] rfl rfl (any_of rfl (by kernel_rfl)) (fun _ _ _ h => h) (Or.inr ⟨by rfl, rfl⟩) ?_ ?_
  rotate_left
  · simp only [Act.put, List.setIfInBounds_toArray, List.set_cons_zero, List.set_cons_succ, i64_w, i32_w]
    rfl
  refine pure_ (i := 23) (N := some 41) (v := undef) (a' := ?_) #[true, true, true, true, true, true, true, true, true, true, true, true, true, true, true, true, true, true, true, true, true, true, true, true, false, false, false, false, false, false, false, false] rfl rfl (any_of rfl (by kernel_rfl)) (fun _ _ _ h => h) (Or.inr ⟨by rfl, rfl⟩) ?_ ?_
  rotate_left
  · simp only [Act.put, List.setIfInBounds_toArray, List.set_cons_zero, List.set_cons_succ, i64_w, i32_w]
    rfl
  refine pure_ (i := 24) (N := some 42) (v := ?_) (a' := ?_) #[true, true, true, true, true, true, true, true, true, true, true, true, true, true, true, true, true, true, true, true, true, true, true, true, true, false, false, false, false, false, false, false] rfl rfl (any_of rfl (by kernel_rfl)) (fun _ _ _ h => h) (Or.inl ⟨by rfl, ?_⟩) ?_ ?_
  rotate_left
  · intro w'
    go_simp
    with_reducible rfl
  rotate_left
  · simp only [Act.put, List.setIfInBounds_toArray, List.set_cons_zero, List.set_cons_succ, i64_w, i32_w]
    rfl
  refine pure_ (i := 25) (N := some 43) (v := ?_) (a' := ?_) #[true, true, true, true, true, true, true, true, true, true, true, true, true, true, true, true, true, true, true, true, true, true, true, true, true, true, false, false, false, false, false, false] rfl rfl (any_of rfl (by kernel_rfl)) (fun _ _ _ h => h) (Or.inl ⟨by rfl, ?_⟩) ?_ ?_
  rotate_left
  · intro w'
    go_simp
    with_reducible rfl
  rotate_left
  · simp only [Act.put, List.setIfInBounds_toArray, List.set_cons_zero, List.set_cons_succ, i64_w, i32_w]
    rfl
  refine pure_ (i := 26) (N := some 44) (v := undef) (a' := ?_) #[true, true, true, true, true, true, true, true, true, true, true, true, true, true, true, true, true, true, true, true, true, true, true, true, true, true, true, false, false, false, false, false] rfl rfl (any_of rfl (by kernel_rfl)) (fun _ _ _ h => h) (Or.inr ⟨by rfl, rfl⟩) ?_ ?_
  rotate_left
  · simp only [Act.put, List.setIfInBounds_toArray, List.set_cons_zero, List.set_cons_succ, i64_w, i32_w]
    rfl
  refine pure_ (i := 27) (N := some 45) (v := undef) (a' := ?_) #[true, true, true, true, true, true, true, true, true, true, true, true, true, true, true, true, true, true, true, true, true, true, true, true, true, true, true, true, false, false, false, false] rfl rfl (any_of rfl (by kernel_rfl)) (fun _ _ _ h => h) (Or.inr ⟨by rfl, rfl⟩) ?_ ?_
  rotate_left
  · simp only [Act.put, List.setIfInBounds_toArray, List.set_cons_zero, List.set_cons_succ, i64_w, i32_w]
    rfl
  refine pure_ (i := 28) (N := some 46) (v := undef) (a' := ?_) #[true, true, true, true, true, true, true, true, true, true, true, true, true, true, true, true, true, true, true, true, true, true, true, true, true, true, true, true, true, false, false, false] rfl rfl (any_of rfl (by kernel_rfl)) (fun _ _ _ h => h) (Or.inr ⟨by rfl, rfl⟩) ?_ ?_
  rotate_left
  · simp only [Act.put, List.setIfInBounds_toArray, List.set_cons_zero, List.set_cons_succ, i64_w, i32_w]
    rfl
  refine pure_ (i := 29) (N := some 47) (v := undef) (a' := ?_) #[true, true, true, true, true, true, true, true, true, true, true, true, true, true, true, true, true, true, true, true, true, true, true, true, true, true, true, true, true, true, false, false] rfl rfl (any_of rfl (by kernel_rfl)) (fun _ _ _ h => h) (Or.inr ⟨by rfl, rfl⟩) ?_ ?_
  rotate_left
  · simp only [Act.put, List.setIfInBounds_toArray, List.set_cons_zero, List.set_cons_succ, i64_w, i32_w]
    rfl
  refine pure_ (i := 30) (N := some 48) (v := undef) (a' := ?_) #[true, true, true, true, true, true, true, true, true, true, true, true, true, true, true, true, true, true, true, true, true, true, true, true, true, true, true, true, true, true, true, false] rfl rfl (any_of rfl (by kernel_rfl)) (fun _ _ _ h => h) (Or.inr ⟨by rfl, rfl⟩) ?_ ?_
  rotate_left
  · simp only [Act.put, List.setIfInBounds_toArray, List.set_cons_zero, List.set_cons_succ, i64_w, i32_w]
    rfl
  refine pure_ (i := 31) (N := some 49) (v := ?_) (a' := ?_) #[true, true, true, true, true, true, true, true, true, true, true, true, true, true, true, true, true, true, true, true, true, true, true, true, true, true, true, true, true, true, true, true] rfl rfl (any_of rfl (by kernel_rfl)) (fun _ _ _ h => h) (Or.inl ⟨by rfl, ?_⟩) ?_ ?_
  rotate_left
  · intro w'
    go_simp
    with_reducible rfl
  rotate_left
  · simp only [Act.put, List.setIfInBounds_toArray, List.set_cons_zero, List.set_cons_succ, i64_w, i32_w]
    rfl
  refine done_ (done_of rfl (by kernel_rfl)) ?_
  go_wp2
  go_ret
  exact ⟨rfl, HB⟩
set_option maxRecDepth 100000 in
set_option maxHeartbeats 4000000 in
theorem ver_bad5 (h1 : l1.length = 18) (h2 : l2.length ≤ 8) (o1 : OddOf w A1 c1 l1 false) (o2 : OddOf w A2 c2 l2 false) (h5 : idx < 0) :
    Calls Tryd.prog 33 #[.string a0, .string msg, .agg #[.int .i64 idx, .slice A1 l1.length c1, .slice A2 l2.length c2]] w fun e w' => VerTo w false e w' := by
  have d1 : ((l1.length : Int) == 18) = true := beq_iff_eq.mpr (by omega)
  have d2 : ((l1.length : Int) != 18) = false := bne_eq_false_iff_eq.mpr (by omega)
  have d3 : decide (8 < (l2.length : Int)) = false := decide_eq_false (by omega)
  have d4 : decide (8 < l2.length) = false := decide_eq_false (by omega)
  have d5 : decide (idx < 0) = true := decide_eq_true h5
  have HO1 := Lib.hid o1
  clear o1
  have HO2 := Lib.hid o2
  clear o2
  clear h1 h2 h5
  go_enter Tryd.func33, Tryd.ntmps33
  go_wp2
  have BK := blk_new w (.cells #[.int .i64 idx, .slice A1 l1.length c1, .slice A2 l2.length c2] 35)
  have HB := below_alloc (Below.refl w.heap.size w) (.cells #[.int .i64 idx, .slice A1 l1.length c1, .slice A2 l2.length c2] 35)
  refine start_ (n := 32) (S := fun w' => w'.cell? ⟨w.heap.size, 0, none⟩ = some (.int .i64 idx) ∧ w'.cell? ⟨w.heap.size, 1, none⟩ = some (.slice A1 l1.length c1) ∧ w'.cell? ⟨w.heap.size, 2, none⟩ = some (.slice A2 l2.length c2)) (ds := []) #[false, false, false, false, false, false, false, false, false, false, false, false, false, false, false, false, false, false, false, false, false, false, false, false, false, false, false, false, false, false, false, false] (by kernel_rfl) rfl rfl ⟨(blk_cell (blk_drew BK) 0).trans rfl, (blk_cell (blk_drew BK) 1).trans rfl, (blk_cell (blk_drew BK) 2).trans rfl⟩ (fun hHeld => ?_)
  replace BK := blk_drew BK
  replace HB := below_drew1 HB
  generalize (w.alloc (.cells #[.int .i64 idx, .slice A1 l1.length c1, .slice A2 l2.length c2] 35)).drew = Wd at BK HB hHeld ⊢
  refine pure_ (i := 0) (N := some 18) (v := ?_) (a' := ?_) #[true, false, false, false, false, false, false, false, false, false, false, false, false, false, false, false, false, false, false, false, false, false, false, false, false, false, false, false, false, false, false, false] rfl rfl (any_of rfl (by kernel_rfl)) (fun _ _ _ h => h) (Or.inl ⟨by rfl, ?_⟩) ?_ ?_
  rotate_left
  · intro w'
    go_simp
    with_reducible rfl
  rotate_left
  · simp only [Act.put, List.setIfInBounds_toArray, List.set_cons_zero, List.set_cons_succ, i64_w, i32_w]
    rfl
  refine take_ (i := 1) (N := some 19) (v := ?_) (a' := ?_) #[true, true, false, false, false, false, false, false, false, false, false, false, false, false, false, false, false, false, false, false, false, false, false, false, false, false, false, false, false, false, false, false] rfl rfl (take_of rfl (by kernel_rfl)) (fun _ _ _ h => h) (Or.inl ⟨by rfl, ?_⟩) hHeld ?_ ?_
  rotate_left
  · rintro w' ⟨s0, s1, s2⟩
    go_simp
    with_reducible rfl
  rotate_left
  · simp only [Act.put, List.setIfInBounds_toArray, List.set_cons_zero, List.set_cons_succ, i64_w, i32_w]
    rfl
  refine pure_ (i := 2) (N := some 20) (v := ?_) (a' := ?_) #[true, true, true, false, false, false, false, false, false, false, false, false, false, false, false, false, false, false, false, false, false, false, false, false, false, false, false, false, false, false, false, false] rfl rfl (any_of rfl (by kernel_rfl)) (fun _ _ _ h => h) (Or.inl ⟨by rfl, ?_⟩) ?_ ?_
  rotate_left
  · intro w'
    go_simp
    with_reducible rfl
  rotate_left
  · simp only [Act.put, List.setIfInBounds_toArray, List.set_cons_zero, List.set_cons_succ, i64_w, i32_w]
    rfl
  refine pure_ (i := 3) (N := some 21) (v := ?_) (a' := ?_) #[true, true, true, true, false, false, false, false, false, false, false, false, false, false, false, false, false, false, false, false, false, false, false, false, false, false, false, false, false, false, false, false] rfl rfl (any_of rfl (by kernel_rfl)) (fun _ _ _ h => h) (Or.inl ⟨by rfl, ?_⟩) ?_ ?_
  rotate_left
  · intro w'
    go_simp
    with_reducible rfl
  rotate_left
  · simp only [Act.put, List.setIfInBounds_toArray, List.set_cons_zero, List.set_cons_succ, i64_w, i32_w]
    rfl
  refine pure_ (i := 4) (N := some 22) (v := ?_) (a' := ?_) #[true, true, true, true, true, false, false, false, false, false, false, false, false, false, false, false, false, false, false, false, false, false, false, false, false, false, false, false, false, false, false, false] rfl rfl (any_of rfl (by kernel_rfl)) (fun _ _ _ h => h) (Or.inl ⟨by rfl, ?_⟩) ?_ ?_
  rotate_left
  · intro w'
    go_simp
    with_reducible rfl
  rotate_left
  · simp only [Act.put, List.setIfInBounds_toArray, List.set_cons_zero, List.set_cons_succ, i64_w, i32_w]
    rfl
  refine pure_ (i := 5) (N := some 23) (v := ?_) (a' := ?_) #[true, true, true, true, true, true, false, false, false, false, false, false, false, false, false, false, false, false, false, false, false, false, false, false, false, false, false, false, false, false, false, false] rfl rfl (any_of rfl (by kernel_rfl)) (fun _ _ _ h => h) (Or.inl ⟨by rfl, ?_⟩) ?_ ?_
  rotate_left
  · intro w'
    go_simp
    with_reducible rfl
  rotate_left
  · simp only [Act.put, List.setIfInBounds_toArray, List.set_cons_zero, List.set_cons_succ, i64_w, i32_w]
    rfl
  refine pure_ (i := 6) (N := some 24) (v := ?_) (a' := ?_) #[true, true, true, true, true, true, true, false, false, false, false, false, false, false, false, false, false, false, false, false, false, false, false, false, false, false, false, false, false, false, false, false] rfl rfl (any_of rfl (by kernel_rfl)) (fun _ _ _ h => h) (Or.inl ⟨by rfl, ?_⟩) ?_ ?_
  rotate_left
  · intro w'
    go_simp
    with_reducible rfl
  rotate_left
  · simp only [Act.put, List.setIfInBounds_toArray, List.set_cons_zero, List.set_cons_succ, i64_w, i32_w]
    rfl
  refine pure_ (i := 7) (N := some 25) (v := ?_) (a' := ?_) #[true, true, true, true, true, true, true, true, false, false, false, false, false, false, false, false, false, false, false, false, false, false, false, false, false, false, false, false, false, false, false, false] rfl rfl (any_of rfl (by kernel_rfl)) (fun _ _ _ h => h) (Or.inl ⟨by rfl, ?_⟩) ?_ ?_
  rotate_left
  · intro w'
    go_simp
    with_reducible rfl
  rotate_left
  · simp only [Act.put, List.setIfInBounds_toArray, List.set_cons_zero, List.set_cons_succ, i64_w, i32_w]
    rfl
  refine pure_ (i := 8) (N := some 26) (v := ?_) (a' := ?_) #[true, true, true, true, true, true, true, true, true, false, false, false, false, false, false, false, false, false, false, false, false, false, false, false, false, false, false, false, false, false, false, false] rfl rfl (any_of rfl (by kernel_rfl)) (fun _ _ _ h => h) (Or.inl ⟨by rfl, ?_⟩) ?_ ?_
  rotate_left
  · intro w'
    go_simp
    with_reducible rfl
  rotate_left
  · simp only [Act.put, List.setIfInBounds_toArray, List.set_cons_zero, List.set_cons_succ, i64_w, i32_w]
    rfl
  refine pure_ (i := 9) (N := some 27) (v := ?_) (a' := ?_) #[true, true, true, true, true, true, true, true, true, true, false, false, false, false, false, false, false, false, false, false, false, false, false, false, false, false, false, false, false, false, false, false] rfl rfl (any_of rfl (by kernel_rfl)) (fun _ _ _ h => h) (Or.inl ⟨by rfl, ?_⟩) ?_ ?_
  rotate_left
  · intro w'
    go_simp
    with_reducible rfl
  rotate_left
  · simp only [Act.put, List.setIfInBounds_toArray, List.set_cons_zero, List.set_cons_succ, i64_w, i32_w]
    rfl
  refine pure_ (i := 10) (N := some 28) (v := ?_) (a' := ?_) #[true, true, true, true, true, true, true, true, true, true, true, false, false, false, false, false, false, false, false, false, false, false, false, false, false, false, false, false, false, false, false, false] rfl rfl (any_of rfl (by kernel_rfl)) (fun _ _ _ h => h) (Or.inl ⟨by rfl, ?_⟩) ?_ ?_
  rotate_left
  · intro w'
    go_simp
    with_reducible rfl
  rotate_left
  · simp only [Act.put, List.setIfInBounds_toArray, List.set_cons_zero, List.set_cons_succ, i64_w, i32_w]
    rfl
  refine take_ (i := 11) (N := some 29) (v := ?_) (a' := ?_) #[true, true, true, true, true, true, true, true, true, true, true, true, false, false, false, false, false, false, false, false, false, false, false, false, false, false, false, false, false, false, false, false] rfl rfl (take_of rfl (by kernel_rfl)) (fun _ _ _ h => h) (Or.inl ⟨by rfl, ?_⟩) hHeld ?_ ?_
  rotate_left
  · rintro w' ⟨s0, s1, s2⟩
    go_simp
    with_reducible rfl
  rotate_left
  · simp only [Act.put, List.setIfInBounds_toArray, List.set_cons_zero, List.set_cons_succ, i64_w, i32_w]
    rfl
  refine one_ (i := 12) (N := some 30) #[true, true, true, true, true, true, true, true, true, true, true, true, true, false, false, false, false, false, false, false, false, false, false, false, false, false, false, false, false, false, false, false] rfl rfl (one_of rfl (by kernel_rfl)) (by decide) (fun K hK => ?_)
  refine goesV_ 60 Tryd.func60 (by kernel_rfl) rfl #[.slice A1 l1.length c1] (by rfl) rfl rfl rfl (by (try simp only [List.map_toArray, List.map_cons, List.map_nil]); first | done | rfl) ?_
  refine ((HO1.out Wd HB).mono ?_)
  rintro e W1 ⟨rfl, hb⟩
  refine ⟨_, rfl, ?_⟩
  replace BK := blk_below BK hb
  replace HB := HB.trans (hb.mono HB.size)
  refine hK.out _ _ ⟨(blk_cell BK 0).trans rfl, (blk_cell BK 1).trans rfl, (blk_cell BK 2).trans rfl⟩ (fun hHeld1 => ?_)
  clear hHeld hb
  have hHeld := hHeld1
  clear hHeld1
  clear hK K
  refine norm_ (a' := ?_) ?_ ?_
  rotate_left
  · show Act.put _ (some 30) _ = _
    simp only [Act.put, List.setIfInBounds_toArray, List.set_cons_zero, List.set_cons_succ, i64_w, i32_w]
    rfl
  refine pure_ (i := 13) (N := some 31) (v := ?_) (a' := ?_) #[true, true, true, true, true, true, true, true, true, true, true, true, true, true, false, false, false, false, false, false, false, false, false, false, false, false, false, false, false, false, false, false] rfl rfl (any_of rfl (by kernel_rfl)) (fun _ _ _ h => h) (Or.inl ⟨by rfl, ?_⟩) ?_ ?_
  rotate_left
  · intro w'
    go_simp
    with_reducible rfl
  rotate_left
  · simp only [Act.put, List.setIfInBounds_toArray, List.set_cons_zero, List.set_cons_succ, i64_w, i32_w]
    rfl
  refine pure_ (i := 14) (N := some 32) (v := ?_) (a' := ?_) #[true, true, true, true, true, true, true, true, true, true, true, true, true, true, true, false, false, false, false, false, false, false, false, false, false, false, false, false, false, false, false, false] rfl rfl (any_of rfl (by kernel_rfl)) (fun _ _ _ h => h) (Or.inl ⟨by rfl, ?_⟩) ?_ ?_
  rotate_left
  · intro w'
    go_simp
    with_reducible rfl
  rotate_left
  · simp only [Act.put, List.setIfInBounds_toArray, List.set_cons_zero, List.set_cons_succ, i64_w, i32_w]
    rfl
  refine pure_ (i := 15) (N := some 33) (v := ?_) (a' := ?_) #[true, true, true, true, true, true, true, true, true, true, true, true, true, true, true, true, false, false, false, false, false, false, false, false, false, false, false, false, false, false, false, false] rfl rfl (any_of rfl (by kernel_rfl)) (fun _ _ _ h => h) (Or.inl ⟨by rfl, ?_⟩) ?_ ?_
  rotate_left
  · intro w'
    go_simp
    with_reducible rfl
  rotate_left
  · simp only [Act.put, List.setIfInBounds_toArray, List.set_cons_zero, List.set_cons_succ, i64_w, i32_w]
    rfl
  refine pure_ (i := 16) (N := some 34) (v := ?_) (a' := ?_) #[true, true, true, true, true, true, true, true, true, true, true, true, true, true, true, true, true, false, false, false, false, false, false, false, false, false, false, false, false, false, false, false] rfl rfl (any_of rfl (by kernel_rfl)) (fun _ _ _ h => h) (Or.inl ⟨by rfl, ?_⟩) ?_ ?_
  rotate_left
  · intro w'
    go_simp
    with_reducible rfl
  rotate_left
  · simp only [Act.put, List.setIfInBounds_toArray, List.set_cons_zero, List.set_cons_succ, i64_w, i32_w]
    rfl
  refine take_ (i := 17) (N := some 35) (v := ?_) (a' := ?_) #[true, true, true, true, true, true, true, true, true, true, true, true, true, true, true, true, true, true, false, false, false, false, false, false, false, false, false, false, false, false, false, false] rfl rfl (take_of rfl (by kernel_rfl)) (fun _ _ _ h => h) (Or.inl ⟨by rfl, ?_⟩) hHeld ?_ ?_
  rotate_left
  · rintro w' ⟨s0, s1, s2⟩
    go_simp
    with_reducible rfl
  rotate_left
  · simp only [Act.put, List.setIfInBounds_toArray, List.set_cons_zero, List.set_cons_succ, i64_w, i32_w]
    rfl
  refine one_ (i := 18) (N := some 36) #[true, true, true, true, true, true, true, true, true, true, true, true, true, true, true, true, true, true, true, false, false, false, false, false, false, false, false, false, false, false, false, false] rfl rfl (one_of rfl (by kernel_rfl)) (by decide) (fun K hK => ?_)
  refine goesV_ 60 Tryd.func60 (by kernel_rfl) rfl #[.slice A2 l2.length c2] (by rfl) rfl rfl rfl (by (try simp only [List.map_toArray, List.map_cons, List.map_nil]); first | done | rfl) ?_
  refine ((HO2.out W1 HB).mono ?_)
  rintro e W2 ⟨rfl, hb⟩
  refine ⟨_, rfl, ?_⟩
  replace BK := blk_below BK hb
  replace HB := HB.trans (hb.mono HB.size)
  refine hK.out _ _ ⟨(blk_cell BK 0).trans rfl, (blk_cell BK 1).trans rfl, (blk_cell BK 2).trans rfl⟩ (fun hHeld1 => ?_)
  clear hHeld hb
  have hHeld := hHeld1
  clear hHeld1
  clear hK K
  refine norm_ (a' := ?_) ?_ ?_
  rotate_left
  · show Act.put _ (some 36) _ = _
    simp only [Act.put, List.setIfInBounds_toArray, List.set_cons_zero, List.set_cons_succ, i64_w, i32_w]
    rfl
  refine pure_ (i := 19) (N := some 37) (v := ?_) (a' := ?_) #[true, true, true, true, true, true, true, true, true, true, true, true, true, true, true, true, true, true, true, true, false, false, false, false, false, false, false, false, false, false, false, false] rfl rfl (any_of rfl (by kernel_rfl)) (fun _ _ _ h => h) (Or.inl ⟨by rfl, ?_⟩) ?_ ?_
  rotate_left
  · intro w'
    go_simp
    with_reducible rfl
  rotate_left
  · simp only [Act.put, List.setIfInBounds_toArray, List.set_cons_zero, List.set_cons_succ, i64_w, i32_w]
    rfl
  refine pure_ (i := 20) (N := some 38) (v := ?_) (a' := ?_) #[true, true, true, true, true, true, true, true, true, true, true, true, true, true, true, true, true, true, true, true, true, false, false, false, false, false, false, false, false, false, false, false] rfl rfl (any_of rfl (by kernel_rfl)) (fun _ _ _ h => h) (Or.inl ⟨by rfl, ?_⟩) ?_ ?_
  rotate_left
  · intro w'
    go_simp
    with_reducible rfl
  rotate_left
  · simp only [Act.put, List.setIfInBounds_toArray, List.set_cons_zero, List.set_cons_succ, i64_w, i32_w]
    rfl
  refine pure_ (i := 21) (N := some 39) (v := ?_) (a' := ?_) #[true, true, true, true, true, true, true, true, true, true, true, true, true, true, true, true, true, true, true, true, true, true, false, false, false, false, false, false, false, false, false, false] rfl rfl (any_of rfl (by kernel_rfl)) (fun _ _ _ h => h) (Or.inl ⟨by rfl, ?_⟩) ?_ ?_
  rotate_left
  · intro w'
    go_simp
    with_reducible rfl
  rotate_left
  · simp only [Act.put, List.setIfInBounds_toArray, List.set_cons_zero, List.set_cons_succ, i64_w, i32_w]
    rfl
  refine take_ (i := 22) (N := some 40) (v := ?_) (a' := ?_) #[true, true, true, true, true, true, true, true, true, true, true, true, true, true, true, true, true, true, true, true, true, true, true, false, false, false, false, false, false, false, false, false] rfl rfl (take_of rfl (by kernel_rfl)) (fun _ _ _ h => h) (Or.inl ⟨by rfl, ?_⟩) hHeld ?_ ?_
  rotate_left
  · rintro w' ⟨s0, s1, s2⟩
    go_simp
    with_reducible rfl
  rotate_left
  · simp only [Act.put, List.setIfInBounds_toArray, List.set_cons_zero, List.set_cons_succ, i64_w, i32_w]
    rfl
  refine pure_ (i := 23) (N := some 41) (v := ?_) (a' := ?_) #[true, true, true, true, true, true, true, true, true, true, true, true, true, true, true, true, true, true, true, true, true, true, true, true, false, false, false, false, false, false, false, false] rfl rfl (any_of rfl (by kernel_rfl)) (fun _ _ _ h => h) (Or.inl ⟨by rfl, ?_⟩) ?_ ?_
  rotate_left
  · intro w'
    go_simp
    with_reducible rfl
  rotate_left
  · simp only [Act.put, List.setIfInBounds_toArray, List.set_cons_zero, List.set_cons_succ, i64_w, i32_w]
    rfl
  refine pure_ (i := 24) (N := some 42) (v := ?_) (a' := ?_) #[true, true, true, true, true, true, true, true, true, true, true, true, true, true, true, true, true, true, true, true, true, true, true, true, true, false, false, false, false, false, false, false] rfl rfl (any_of rfl (by kernel_rfl)) (fun _ _ _ h => h) (Or.inl ⟨by rfl, ?_⟩) ?_ ?_
  rotate_left
  · intro w'
    go_simp
    with_reducible rfl
  rotate_left
  · simp only [Act.put, List.setIfInBounds_toArray, List.set_cons_zero, List.set_cons_succ, i64_w, i32_w]
    rfl
  refine pure_ (i := 25) (N := some 43) (v := ?_) (a' := ?_) #[true, true, true, true, true, true, true, true, true, true, true, true, true, true, true, true, true, true, true, true, true, true, true, true, true, true, false, false, false, false, false, false] rfl rfl (any_of rfl (by kernel_rfl)) (fun _ _ _ h => h) (Or.inl ⟨by rfl, ?_⟩) ?_ ?_
  rotate_left
  · intro w'
    go_simp
    with_reducible rfl
  rotate_left
  · simp only [Act.put, List.setIfInBounds_toArray, List.set_cons_zero, List.set_cons_succ, i64_w, i32_w]
    rfl
  refine pure_ (i := 26) (N := some 44) (v := undef) (a' := ?_) #[true, true, true, true, true, true, true, true, true, true, true, true, true, true, true, true, true, true, true, true, true, true, true, true, true, true, true, false, false, false, false, false] rfl rfl (any_of rfl (by kernel_rfl)) (fun _ _ _ h => h) (Or.inr ⟨by rfl, rfl⟩) ?_ ?_
  rotate_left
  · simp only [Act.put, List.setIfInBounds_toArray, List.set_cons_zero, List.set_cons_succ, i64_w, i32_w]
    rfl
  refine pure_ (i := 27) (N := some 45) (v := undef) (a' := ?_) #[true, true, true, true, true, true, true, true, true, true, true, true, true, true, true, true, true, true, true, true, true, true, true, true, true, true, true, true, false, false, false, false] rfl rfl (any_of rfl (by kernel_rfl)) (fun _ _ _ h => h) (Or.inr ⟨by rfl, rfl⟩) ?_ ?_
  rotate_left
  · simp only [Act.put, List.setIfInBounds_toArray, List.set_cons_zero, List.set_cons_succ, i64_w, i32_w]
    rfl
  refine pure_ (i := 28) (N := some 46) (v := undef) (a' := ?_) #[true, true, true, true, true, true, true, true, true, true, true, true, true, true, true, true, true, true, true, true, true, true, true, true, true, true, true, true, true, false, false, false] rfl rfl (any_of rfl (by kernel_rfl)) (fun _ _ _ h => h) (Or.inr ⟨by rfl, rfl⟩) ?_ ?_
  rotate_left
  · simp only [Act.put, List.setIfInBounds_toArray, List.set_cons_zero, List.set_cons_succ, i64_w, i32_w]
    rfl
  refine pure_ (i := 29) (N := some 47) (v := undef) (a' := ?_) #[true, true, true, true, true, true, true, true, true, true, true, true, true, true, true, true, true, true, true, true, true, true, true, true, true, true, true, true, true, true, false, false] rfl rfl (any_of rfl (by kernel_rfl)) (fun _ _ _ h => h) (Or.inr ⟨by rfl, rfl⟩) ?_ ?_
  rotate_left
  · simp only [Act.put, List.setIfInBounds_toArray, List.set_cons_zero, List.set_cons_succ, i64_w, i32_w]
    rfl
  refine pure_ (i := 30) (N := some 48) (v := undef) (a' := ?_) #[true, true, true, true, true, true, true, true, true, true, true, true, true, true, true, true, true, true, true, true, true, true, true, true, true, true, true, true, true, true, true, false] rfl rfl (any_of rfl (by kernel_rfl)) (fun _ _ _ h => h) (Or.inr ⟨by rfl, rfl⟩) ?_ ?_
  rotate_left
  · simp only [Act.put, List.setIfInBounds_toArray, List.set_cons_zero, List.set_cons_succ, i64_w, i32_w]
    rfl
  refine pure_ (i := 31) (N := some 49) (v := ?_) (a' := ?_) #[true, true, true, true, true, true, true, true, true, true, true, true, true, true, true, true, true, true, true, true, true, true, true, true, true, true, true, true, true, true, true, true] rfl rfl (any_of rfl (by kernel_rfl)) (fun _ _ _ h => h) (Or.inl ⟨by rfl, ?_⟩) ?_ ?_
  rotate_left
  · intro w'
    go_simp
    with_reducible rfl
  rotate_left
  · simp only [Act.put, List.setIfInBounds_toArray, List.set_cons_zero, List.set_cons_succ, i64_w, i32_w]
    rfl
  refine done_ (done_of rfl (by kernel_rfl)) ?_
  go_wp2
  go_ret
  exact ⟨rfl, HB⟩
set_option maxRecDepth 100000 in
set_option maxHeartbeats 4000000 in
theorem ver_bad6 (h1 : l1.length = 18) (h2 : l2.length ≤ 8) (o1 : OddOf w A1 c1 l1 false) (o2 : OddOf w A2 c2 l2 false) (h5 : 0 ≤ idx) (h6 : ((2 ^ l2.length : Nat) : Int) ≤ idx) :
    Calls Tryd.prog 33 #[.string a0, .string msg, .agg #[.int .i64 idx, .slice A1 l1.length c1, .slice A2 l2.length c2]] w fun e w' => VerTo w false e w' := by
  have d1 : ((l1.length : Int) == 18) = true := beq_iff_eq.mpr (by omega)
  have d2 : ((l1.length : Int) != 18) = false := bne_eq_false_iff_eq.mpr (by omega)
  have d3 : decide (8 < (l2.length : Int)) = false := decide_eq_false (by omega)
  have d4 : decide (8 < l2.length) = false := decide_eq_false (by omega)
  have d5 : decide (idx < 0) = false := decide_eq_false (by omega)
  have hp : 2 ^ l2.length ≤ 256 := Nat.le_trans (pow_le h2) (by decide)
  have hpow : (2 : Int) ^ l2.length = ((2 ^ l2.length : Nat) : Int) := by simp
  generalize 2 ^ l2.length = Pw at *
  have d6 : wrap64 ((2 : Int) ^ min l2.length 64) = (Pw : Int) := by rw [Nat.min_eq_left (by omega), hpow]; unfold wrap64; omega
  clear hpow
  have d7 : decide ((Pw : Int) ≤ idx) = true := decide_eq_true h6
  have HO1 := Lib.hid o1
  clear o1
  have HO2 := Lib.hid o2
  clear o2
  clear h1 h2 h5 h6
  go_enter Tryd.func33, Tryd.ntmps33
  go_wp2
  have BK := blk_new w (.cells #[.int .i64 idx, .slice A1 l1.length c1, .slice A2 l2.length c2] 35)
  have HB := below_alloc (Below.refl w.heap.size w) (.cells #[.int .i64 idx, .slice A1 l1.length c1, .slice A2 l2.length c2] 35)
  refine start_ (n := 32) (S := fun w' => w'.cell? ⟨w.heap.size, 0, none⟩ = some (.int .i64 idx) ∧ w'.cell? ⟨w.heap.size, 1, none⟩ = some (.slice A1 l1.length c1) ∧ w'.cell? ⟨w.heap.size, 2, none⟩ = some (.slice A2 l2.length c2)) (ds := []) #[false, false, false, false, false, false, false, false, false, false, false, false, false, false, false, false, false, false, false, false, false, false, false, false, false, false, false, false, false, false, false, false] (by kernel_rfl) rfl rfl ⟨(blk_cell (blk_drew BK) 0).trans rfl, (blk_cell (blk_drew BK) 1).trans rfl, (blk_cell (blk_drew BK) 2).trans rfl⟩ (fun hHeld => ?_)
  replace BK := blk_drew BK
  replace HB := below_drew1 HB
  generalize (w.alloc (.cells #[.int .i64 idx, .slice A1 l1.length c1, .slice A2 l2.length c2] 35)).drew = Wd at BK HB hHeld ⊢
  refine pure_ (i := 0) (N := some 18) (v := ?_) (a' := ?_) #[true, false, false, false, false, false, false, false, false, false, false, false, false, false, false, false, false, false, false, false, false, false, false, false, false, false, false, false, false, false, false, false] rfl rfl (any_of rfl (by kernel_rfl)) (fun _ _ _ h => h) (Or.inl ⟨by rfl, ?_⟩) ?_ ?_
  rotate_left
  · intro w'
    go_simp
    with_reducible rfl
  rotate_left
  · simp only [Act.put, List.setIfInBounds_toArray, List.set_cons_zero, List.set_cons_succ, i64_w, i32_w]
    rfl
  refine take_ (i := 1) (N := some 19) (v := ?_) (a' := ?_) #[true, true, false, false, false, false, false, false, false, false, false, false, false, false, false, false, false, false, false, false, false, false, false, false, false, false, false, false, false, false, false, false] rfl rfl (take_of rfl (by kernel_rfl)) (fun _ _ _ h => h) (Or.inl ⟨by rfl, ?_⟩) hHeld ?_ ?_
  rotate_left
  · rintro w' ⟨s0, s1, s2⟩
    go_simp
    with_reducible rfl
  rotate_left
  · simp only [Act.put, List.setIfInBounds_toArray, List.set_cons_zero, List.set_cons_succ, i64_w, i32_w]
    rfl
  refine pure_ (i := 2) (N := some 20) (v := ?_) (a' := ?_) #[true, true, true, false, false, false, false, false, false, false, false, false, false, false, false, false, false, false, false, false, false, false, false, false, false, false, false, false, false, false, false, false] rfl rfl (any_of rfl (by kernel_rfl)) (fun _ _ _ h => h) (Or.inl ⟨by rfl, ?_⟩) ?_ ?_
  rotate_left
  · intro w'
    go_simp
    with_reducible rfl
  rotate_left
  · simp only [Act.put, List.setIfInBounds_toArray, List.set_cons_zero, List.set_cons_succ, i64_w, i32_w]
    rfl
  refine pure_ (i := 3) (N := some 21) (v := ?_) (a' := ?_) #[true, true, true, true, false, false, false, false, false, false, false, false, false, false, false, false, false, false, false, false, false, false, false, false, false, false, false, false, false, false, false, false] rfl rfl (any_of rfl (by kernel_rfl)) (fun _ _ _ h => h) (Or.inl ⟨by rfl, ?_⟩) ?_ ?_
  rotate_left
  · intro w'
    go_simp
    with_reducible rfl
  rotate_left
  · simp only [Act.put, List.setIfInBounds_toArray, List.set_cons_zero, List.set_cons_succ, i64_w, i32_w]
    rfl
  refine pure_ (i := 4) (N := some 22) (v := ?_) (a' := ?_) #[true, true, true, true, true, false, false, false, false, false, false, false, false, false, false, false, false, false, false, false, false, false, false, false, false, false, false, false, false, false, false, false] rfl rfl (any_of rfl (by kernel_rfl)) (fun _ _ _ h => h) (Or.inl ⟨by rfl, ?_⟩) ?_ ?_
  rotate_left
  · intro w'
    go_simp
    with_reducible rfl
  rotate_left
  · simp only [Act.put, List.setIfInBounds_toArray, List.set_cons_zero, List.set_cons_succ, i64_w, i32_w]
    rfl
  refine pure_ (i := 5) (N := some 23) (v := ?_) (a' := ?_) #[true, true, true, true, true, true, false, false, false, false, false, false, false, false, false, false, false, false, false, false, false, false, false, false, false, false, false, false, false, false, false, false] rfl rfl (any_of rfl (by kernel_rfl)) (fun _ _ _ h => h) (Or.inl ⟨by rfl, ?_⟩) ?_ ?_
  rotate_left
  · intro w'
    go_simp
    with_reducible rfl
  rotate_left
  · simp only [Act.put, List.setIfInBounds_toArray, List.set_cons_zero, List.set_cons_succ, i64_w, i32_w]
    rfl
  refine pure_ (i := 6) (N := some 24) (v := ?_) (a' := ?_) #[true, true, true, true, true, true, true, false, false, false, false, false, false, false, false, false, false, false, false, false, false, false, false, false, false, false, false, false, false, false, false, false] rfl rfl (any_of rfl (by kernel_rfl)) (fun _ _ _ h => h) (Or.inl ⟨by rfl, ?_⟩) ?_ ?_
  rotate_left
  · intro w'
    go_simp
    with_reducible rfl
  rotate_left
  · simp only [Act.put, List.setIfInBounds_toArray, List.set_cons_zero, List.set_cons_succ, i64_w, i32_w]
    rfl
  refine pure_ (i := 7) (N := some 25) (v := ?_) (a' := ?_) #[true, true, true, true, true, true, true, true, false, false, false, false, false, false, false, false, false, false, false, false, false, false, false, false, false, false, false, false, false, false, false, false] rfl rfl (any_of rfl (by kernel_rfl)) (fun _ _ _ h => h) (Or.inl ⟨by rfl, ?_⟩) ?_ ?_
  rotate_left
  · intro w'
    go_simp
    with_reducible rfl
  rotate_left
  · simp only [Act.put, List.setIfInBounds_toArray, List.set_cons_zero, List.set_cons_succ, i64_w, i32_w]
    rfl
  refine pure_ (i := 8) (N := some 26) (v := ?_) (a' := ?_) #[true, true, true, true, true, true, true, true, true, false, false, false, false, false, false, false, false, false, false, false, false, false, false, false, false, false, false, false, false, false, false, false] rfl rfl (any_of rfl (by kernel_rfl)) (fun _ _ _ h => h) (Or.inl ⟨by rfl, ?_⟩) ?_ ?_
  rotate_left
  · intro w'
    go_simp
    with_reducible rfl
  rotate_left
  · simp only [Act.put, List.setIfInBounds_toArray, List.set_cons_zero, List.set_cons_succ, i64_w, i32_w]
    rfl
  refine pure_ (i := 9) (N := some 27) (v := ?_) (a' := ?_) #[true, true, true, true, true, true, true, true, true, true, false, false, false, false, false, false, false, false, false, false, false, false, false, false, false, false, false, false, false, false, false, false] rfl rfl (any_of rfl (by kernel_rfl)) (fun _ _ _ h => h) (Or.inl ⟨by rfl, ?_⟩) ?_ ?_
  rotate_left
  · intro w'
    go_simp
    with_reducible rfl
  rotate_left
  · simp only [Act.put, List.setIfInBounds_toArray, List.set_cons_zero, List.set_cons_succ, i64_w, i32_w]
    rfl
  refine pure_ (i := 10) (N := some 28) (v := ?_) (a' := ?_) #[true, true, true, true, true, true, true, true, true, true, true, false, false, false, false, false, false, false, false, false, false, false, false, false, false, false, false, false, false, false, false, false] rfl rfl (any_of rfl (by kernel_rfl)) (fun _ _ _ h => h) (Or.inl ⟨by rfl, ?_⟩) ?_ ?_
  rotate_left
  · intro w'
    go_simp
    with_reducible rfl
  rotate_left
  · simp only [Act.put, List.setIfInBounds_toArray, List.set_cons_zero, List.set_cons_succ, i64_w, i32_w]
    rfl
  refine take_ (i := 11) (N := some 29) (v := ?_) (a' := ?_) #[true, true, true, true, true, true, true, true, true, true, true, true, false, false, false, false, false, false, false, false, false, false, false, false, false, false, false, false, false, false, false, false] rfl rfl (take_of rfl (by kernel_rfl)) (fun _ _ _ h => h) (Or.inl ⟨by rfl, ?_⟩) hHeld ?_ ?_
  rotate_left
  · rintro w' ⟨s0, s1, s2⟩
    go_simp
    with_reducible rfl
  rotate_left
  · simp only [Act.put, List.setIfInBounds_toArray, List.set_cons_zero, List.set_cons_succ, i64_w, i32_w]
    rfl
  refine one_ (i := 12) (N := some 30) #[true, true, true, true, true, true, true, true, true, true, true, true, true, false, false, false, false, false, false, false, false, false, false, false, false, false, false, false, false, false, false, false] rfl rfl (one_of rfl (by kernel_rfl)) (by decide) (fun K hK => ?_)
  refine goesV_ 60 Tryd.func60 (by kernel_rfl) rfl #[.slice A1 l1.length c1] (by rfl) rfl rfl rfl (by (try simp only [List.map_toArray, List.map_cons, List.map_nil]); first | done | rfl) ?_
  refine ((HO1.out Wd HB).mono ?_)
  rintro e W1 ⟨rfl, hb⟩
  refine ⟨_, rfl, ?_⟩
  replace BK := blk_below BK hb
  replace HB := HB.trans (hb.mono HB.size)
  refine hK.out _ _ ⟨(blk_cell BK 0).trans rfl, (blk_cell BK 1).trans rfl, (blk_cell BK 2).trans rfl⟩ (fun hHeld1 => ?_)
  clear hHeld hb
  have hHeld := hHeld1
  clear hHeld1
  clear hK K
  refine norm_ (a' := ?_) ?_ ?_
  rotate_left
  · show Act.put _ (some 30) _ = _
    simp only [Act.put, List.setIfInBounds_toArray, List.set_cons_zero, List.set_cons_succ, i64_w, i32_w]
    rfl
  refine pure_ (i := 13) (N := some 31) (v := ?_) (a' := ?_) #[true, true, true, true, true, true, true, true, true, true, true, true, true, true, false, false, false, false, false, false, false, false, false, false, false, false, false, false, false, false, false, false] rfl rfl (any_of rfl (by kernel_rfl)) (fun _ _ _ h => h) (Or.inl ⟨by rfl, ?_⟩) ?_ ?_
  rotate_left
  · intro w'
    go_simp
    with_reducible rfl
  rotate_left
  · simp only [Act.put, List.setIfInBounds_toArray, List.set_cons_zero, List.set_cons_succ, i64_w, i32_w]
    rfl
  refine pure_ (i := 14) (N := some 32) (v := ?_) (a' := ?_) #[true, true, true, true, true, true, true, true, true, true, true, true, true, true, true, false, false, false, false, false, false, false, false, false, false, false, false, false, false, false, false, false] rfl rfl (any_of rfl (by kernel_rfl)) (fun _ _ _ h => h) (Or.inl ⟨by rfl, ?_⟩) ?_ ?_
  rotate_left
  · intro w'
    go_simp
    with_reducible rfl
  rotate_left
  · simp only [Act.put, List.setIfInBounds_toArray, List.set_cons_zero, List.set_cons_succ, i64_w, i32_w]
    rfl
  refine pure_ (i := 15) (N := some 33) (v := ?_) (a' := ?_) #[true, true, true, true, true, true, true, true, true, true, true, true, true, true, true, true, false, false, false, false, false, false, false, false, false, false, false, false, false, false, false, false] rfl rfl (any_of rfl (by kernel_rfl)) (fun _ _ _ h => h) (Or.inl ⟨by rfl, ?_⟩) ?_ ?_
  rotate_left
  · intro w'
    go_simp
    with_reducible rfl
  rotate_left
  · simp only [Act.put, List.setIfInBounds_toArray, List.set_cons_zero, List.set_cons_succ, i64_w, i32_w]
    rfl
  refine pure_ (i := 16) (N := some 34) (v := ?_) (a' := ?_) #[true, true, true, true, true, true, true, true, true, true, true, true, true, true, true, true, true, false, false, false, false, false, false, false, false, false, false, false, false, false, false, false] rfl rfl (any_of rfl (by kernel_rfl)) (fun _ _ _ h => h) (Or.inl ⟨by rfl, ?_⟩) ?_ ?_
  rotate_left
  · intro w'
    go_simp
    with_reducible rfl
  rotate_left
  · simp only [Act.put, List.setIfInBounds_toArray, List.set_cons_zero, List.set_cons_succ, i64_w, i32_w]
    rfl
  refine take_ (i := 17) (N := some 35) (v := ?_) (a' := ?_) #[true, true, true, true, true, true, true, true, true, true, true, true, true, true, true, true, true, true, false, false, false, false, false, false, false, false, false, false, false, false, false, false] rfl rfl (take_of rfl (by kernel_rfl)) (fun _ _ _ h => h) (Or.inl ⟨by rfl, ?_⟩) hHeld ?_ ?_
  rotate_left
  · rintro w' ⟨s0, s1, s2⟩
    go_simp
    with_reducible rfl
  rotate_left
  · simp only [Act.put, List.setIfInBounds_toArray, List.set_cons_zero, List.set_cons_succ, i64_w, i32_w]
    rfl
  refine one_ (i := 18) (N := some 36) #[true, true, true, true, true, true, true, true, true, true, true, true, true, true, true, true, true, true, true, false, false, false, false, false, false, false, false, false, false, false, false, false] rfl rfl (one_of rfl (by kernel_rfl)) (by decide) (fun K hK => ?_)
  refine goesV_ 60 Tryd.func60 (by kernel_rfl) rfl #[.slice A2 l2.length c2] (by rfl) rfl rfl rfl (by (try simp only [List.map_toArray, List.map_cons, List.map_nil]); first | done | rfl) ?_
  refine ((HO2.out W1 HB).mono ?_)
  rintro e W2 ⟨rfl, hb⟩
  refine ⟨_, rfl, ?_⟩
  replace BK := blk_below BK hb
  replace HB := HB.trans (hb.mono HB.size)
  refine hK.out _ _ ⟨(blk_cell BK 0).trans rfl, (blk_cell BK 1).trans rfl, (blk_cell BK 2).trans rfl⟩ (fun hHeld1 => ?_)
  clear hHeld hb
  have hHeld := hHeld1
  clear hHeld1
  clear hK K
  refine norm_ (a' := ?_) ?_ ?_
  rotate_left
  · show Act.put _ (some 36) _ = _
    simp only [Act.put, List.setIfInBounds_toArray, List.set_cons_zero, List.set_cons_succ, i64_w, i32_w]
    rfl
  refine pure_ (i := 19) (N := some 37) (v := ?_) (a' := ?_) #[true, true, true, true, true, true, true, true, true, true, true, true, true, true, true, true, true, true, true, true, false, false, false, false, false, false, false, false, false, false, false, false] rfl rfl (any_of rfl (by kernel_rfl)) (fun _ _ _ h => h) (Or.inl ⟨by rfl, ?_⟩) ?_ ?_
  rotate_left
  · intro w'
    go_simp
    with_reducible rfl
  rotate_left
  · simp only [Act.put, List.setIfInBounds_toArray, List.set_cons_zero, List.set_cons_succ, i64_w, i32_w]
    rfl
  refine pure_ (i := 20) (N := some 38) (v := ?_) (a' := ?_) #[true, true, true, true, true, true, true, true, true, true, true, true, true, true, true, true, true, true, true, true, true, false, false, false, false, false, false, false, false, false, false, false] rfl rfl (any_of rfl (by kernel_rfl)) (fun _ _ _ h => h) (Or.inl ⟨by rfl, ?_⟩) ?_ ?_
  rotate_left
  · intro w'
    go_simp
    with_reducible rfl
  rotate_left
  · simp only [Act.put, List.setIfInBounds_toArray, List.set_cons_zero, List.set_cons_succ, i64_w, i32_w]
    rfl
  refine pure_ (i := 21) (N := some 39) (v := ?_) (a' := ?_) #[true, true, true, true, true, true, true, true, true, true, true, true, true, true, true, true, true, true, true, true, true, true, false, false, false, false, false, false, false, false, false, false] rfl rfl (any_of rfl (by kernel_rfl)) (fun _ _ _ h => h) (Or.inl ⟨by rfl, ?_⟩) ?_ ?_
  rotate_left
  · intro w'
    go_simp
    with_reducible rfl
  rotate_left
  · simp only [Act.put, List.setIfInBounds_toArray, List.set_cons_zero, List.set_cons_succ, i64_w, i32_w]
    rfl
  refine take_ (i := 22) (N := some 40) (v := ?_) (a' := ?_) #[true, true, true, true, true, true, true, true, true, true, true, true, true, true, true, true, true, true, true, true, true, true, true, false, false, false, false, false, false, false, false, false] rfl rfl (take_of rfl (by kernel_rfl)) (fun _ _ _ h => h) (Or.inl ⟨by rfl, ?_⟩) hHeld ?_ ?_
  rotate_left
  · rintro w' ⟨s0, s1, s2⟩
    go_simp
    with_reducible rfl
  rotate_left
  · simp only [Act.put, List.setIfInBounds_toArray, List.set_cons_zero, List.set_cons_succ, i64_w, i32_w]
    rfl
  refine pure_ (i := 23) (N := some 41) (v := ?_) (a' := ?_) #[true, true, true, true, true, true, true, true, true, true, true, true, true, true, true, true, true, true, true, true, true, true, true, true, false, false, false, false, false, false, false, false] rfl rfl (any_of rfl (by kernel_rfl)) (fun _ _ _ h => h) (Or.inl ⟨by rfl, ?_⟩) ?_ ?_
  rotate_left
  · intro w'
    go_simp
    with_reducible rfl
  rotate_left
  · simp only [Act.put, List.setIfInBounds_toArray, List.set_cons_zero, List.set_cons_succ, i64_w, i32_w]
    rfl
  refine pure_ (i := 24) (N := some 42) (v := ?_) (a' := ?_) #[true, true, true, true, true, true, true, true, true, true, true, true, true, true, true, true, true, true, true, true, true, true, true, true, true, false, false, false, false, false, false, false] rfl rfl (any_of rfl (by kernel_rfl)) (fun _ _ _ h => h) (Or.inl ⟨by rfl, ?_⟩) ?_ ?_
  rotate_left
  · intro w'
    go_simp
    with_reducible rfl
  rotate_left
  · simp only [Act.put, List.setIfInBounds_toArray, List.set_cons_zero, List.set_cons_succ, i64_w, i32_w]
    rfl
  refine pure_ (i := 25) (N := some 43) (v := ?_) (a' := ?_) #[true, true, true, true, true, true, true, true, true, true, true, true, true, true, true, true, true, true, true, true, true, true, true, true, true, true, false, false, false, false, false, false] rfl rfl (any_of rfl (by kernel_rfl)) (fun _ _ _ h => h) (Or.inl ⟨by rfl, ?_⟩) ?_ ?_
  rotate_left
  · intro w'
    go_simp
    with_reducible rfl
  rotate_left
  · simp only [Act.put, List.setIfInBounds_toArray, List.set_cons_zero, List.set_cons_succ, i64_w, i32_w]
    rfl
  refine pure_ (i := 26) (N := some 44) (v := ?_) (a' := ?_) #[true, true, true, true, true, true, true, true, true, true, true, true, true, true, true, true, true, true, true, true, true, true, true, true, true, true, true, false, false, false, false, false] rfl rfl (any_of rfl (by kernel_rfl)) (fun _ _ _ h => h) (Or.inl ⟨by rfl, ?_⟩) ?_ ?_
  rotate_left
  · intro w'
    go_simp
    with_reducible rfl
  rotate_left
  · simp only [Act.put, List.setIfInBounds_toArray, List.set_cons_zero, List.set_cons_succ, i64_w, i32_w]
    rfl
  refine take_ (i := 27) (N := some 45) (v := ?_) (a' := ?_) #[true, true, true, true, true, true, true, true, true, true, true, true, true, true, true, true, true, true, true, true, true, true, true, true, true, true, true, true, false, false, false, false] rfl rfl (take_of rfl (by kernel_rfl)) (fun _ _ _ h => h) (Or.inl ⟨by rfl, ?_⟩) hHeld ?_ ?_
  rotate_left
  · rintro w' ⟨s0, s1, s2⟩
    go_simp
    with_reducible rfl
  rotate_left
  · simp only [Act.put, List.setIfInBounds_toArray, List.set_cons_zero, List.set_cons_succ, i64_w, i32_w]
    rfl
  refine pure_ (i := 28) (N := some 46) (v := ?_) (a' := ?_) #[true, true, true, true, true, true, true, true, true, true, true, true, true, true, true, true, true, true, true, true, true, true, true, true, true, true, true, true, true, false, false, false] rfl rfl (any_of rfl (by kernel_rfl)) (fun _ _ _ h => h) (Or.inl ⟨by rfl, ?_⟩) ?_ ?_
  rotate_left
  · intro w'
    go_simp
    with_reducible rfl
  rotate_left
  · simp only [Act.put, List.setIfInBounds_toArray, List.set_cons_zero, List.set_cons_succ, i64_w, i32_w]
    rfl
  refine pure_ (i := 29) (N := some 47) (v := ?_) (a' := ?_) #[true, true, true, true, true, true, true, true, true, true, true, true, true, true, true, true, true, true, true, true, true, true, true, true, true, true, true, true, true, true, false, false] rfl rfl (any_of rfl (by kernel_rfl)) (fun _ _ _ h => h) (Or.inl ⟨by rfl, ?_⟩) ?_ ?_
  rotate_left
  · intro w'
    go_simp
    with_reducible rfl
  rotate_left
  · simp only [Act.put, List.setIfInBounds_toArray, List.set_cons_zero, List.set_cons_succ, i64_w, i32_w]
    rfl
  refine pure_ (i := 30) (N := some 48) (v := ?_) (a' := ?_) #[true, true, true, true, true, true, true, true, true, true, true, true, true, true, true, true, true, true, true, true, true, true, true, true, true, true, true, true, true, true, true, false] rfl rfl (any_of rfl (by kernel_rfl)) (fun _ _ _ h => h) (Or.inl ⟨by rfl, ?_⟩) ?_ ?_
  rotate_left
  · intro w'
    go_simp
    with_reducible rfl
  rotate_left
  · simp only [Act.put, List.setIfInBounds_toArray, List.set_cons_zero, List.set_cons_succ, i64_w, i32_w]
    rfl
  refine pure_ (i := 31) (N := some 49) (v := ?_) (a' := ?_) #[true, true, true, true, true, true, true, true, true, true, true, true, true, true, true, true, true, true, true, true, true, true, true, true, true, true, true, true, true, true, true, true] rfl rfl (any_of rfl (by kernel_rfl)) (fun _ _ _ h => h) (Or.inl ⟨by rfl, ?_⟩) ?_ ?_
  rotate_left
  · intro w'
    go_simp
    with_reducible rfl
  rotate_left
  · simp only [Act.put, List.setIfInBounds_toArray, List.set_cons_zero, List.set_cons_succ, i64_w, i32_w]
    rfl
  refine done_ (done_of rfl (by kernel_rfl)) ?_
  go_wp2
  go_ret
  exact ⟨rfl, HB⟩
end
end Go.Proofs.YteleheamnighkaaDoor
end
section
set_option linter.unusedVariables false
set_option linter.unusedSimpArgs false
namespace Go.Proofs.YteleheamnighkaaDoor
open Go.RowKit Go.Shelf Go.DoorKit Go.DoorRound Go.Proofs.YteleheamnighkaaDoorW.PrintWords Go.Proofs.YteleheamnighkaaDoorW.PrintLast Go.Proofs.YteleheamnighkaaDoorW.PrintMore
attribute [local go_sem] Oper.semAt_some
def endAt (l : List ByteArray) (m : Dig.Txt) (j : Nat) : ByteArray := ofT (Dig.chain (tx (l.getD j ByteArray.empty)) (15 - dAt m j))
def endsL (l : List ByteArray) (m : Dig.Txt) : List ByteArray := (List.finRange 18).map fun j => endAt l m j.val
theorem endsL_len (l : List ByteArray) (m : Dig.Txt) : (endsL l m).length = 18 := by simp [endsL]
theorem chain_len' {t : Dig.Txt} {n : Nat} (h : t.length ≤ 100) : (Dig.chain t n).length ≤ 100 := by
  cases n with
  | zero => exact h
  | succ n => rw [Dig.chain, Dig.sum_len]; decide
def VerLoop (idx : Nat) (l2 : List ByteArray) (w : World) (o : Obj) (D : Nat) (X0 : Dig.Txt) (at_ c : Value) (W : World) : Prop :=
  ∃ k : Nat, k ≤ l2.length ∧ c = .int .i64 (k : Int) ∧ at_ = .string (ofT (Dig.climb X0 idx ((l2.map tx).take k))) ∧ W.heap[w.heap.size]? = some o ∧ W.heap[D]? = some (.deferred (some [])) ∧ Below w.heap.size w W
def climbB (a0 msg : ByteArray) (idx : Nat) (l1 l2 : List ByteArray) : Bool := (ofT (Dig.climb (Dig.lst ((endsL l1 (tx msg)).map tx)) idx (l2.map tx))).toList == a0.toList
theorem climb_len : ∀ {X : Dig.Txt} (_ : X.length = 16) (i : Nat) (ps : List Dig.Txt), (Dig.climb X i ps).length = 16
  | _, h, _, [] => h
  | _, _, i, p :: ps => climb_len (Dig.sum_len _) (i / 2) ps
theorem and_one (x : Nat) (h : x < 256) : (bits .and .i64 (x : Int) 1 == 1) = decide (x % 2 = 1) := by
  have : ∀ n : Fin 256, (bits .and .i64 (n.val : Int) 1 == 1) = decide (n.val % 2 = 1) := by decide +kernel
  exact this ⟨x, h⟩
theorem stepB_stepT (at_ p : Dig.Txt) {idx k : Nat} (h : idx < 256) : Dig.stepT at_ p (idx / 2 ^ k) = stepB at_ p (bits .and .i64 ((idx : Int) / 2 ^ k) 1 == 1) := by
  have e : (idx : Int) / 2 ^ k = ((idx / 2 ^ k : Nat) : Int) := by simp
  rw [e, and_one _ (Nat.lt_of_le_of_lt (Nat.div_le_self _ _) h)]
  unfold Dig.stepT stepB
  by_cases h1 : idx / 2 ^ k % 2 = 1
  · rw [if_pos h1, if_pos (decide_eq_true h1)]
  · rw [if_neg h1, if_neg (by rw [decide_eq_false h1]; decide)]
theorem ends_need2 (l : List ByteArray) (m : Dig.Txt) (h1 : l.length = 18) (hz : ∀ s ∈ l, s.size = 16) : need (endsL l m) ≤ 140737488355328 := by
  refine need_all 100 18 ?_ (by rw [endsL_len]; exact Nat.le_refl _) (by decide)
  intro s hs
  simp only [endsL, List.mem_map] at hs
  obtain ⟨j, _, rfl⟩ := hs
  unfold endAt
  rw [size_ofT]
  refine chain_len' ?_
  rw [tx_len, hz _ (getD_mem (by have := j.isLt; omega))]; decide
set_option maxRecDepth 100000 in
set_option maxHeartbeats 4000000 in
theorem ver_in (a0 msg : ByteArray) (idx : Nat) (A1 A2 : Option Addr) (c1 c2 : Nat) (l1 l2 : List ByteArray) (w : World) (h1 : l1.length = 18) (h2 : l2.length ≤ 8) (o1 : OddOf w A1 c1 l1 false) (o2 : OddOf w A2 c2 l2 false)
    (hr1 : Kd.C Kd.string w A1 l1.length l1) (hr2 : Kd.C Kd.string w A2 l2.length l2) (hz1 : ∀ s ∈ l1, s.size = 16) (hz2 : ∀ s ∈ l2, s.size = 16) (hc1 : l1.length ≤ c1) (hc2 : l2.length ≤ c2)
    (h6 : idx < 2 ^ l2.length) (hm : msg.size ≤ 140737488355328) (hG : Glob w) :
    CallsIn Fence.wide 5 Tryd.prog 33 #[.string a0, .string msg, .agg #[.int .i64 idx, .slice A1 l1.length c1, .slice A2 l2.length c2]] w fun e w' => VerTo w (climbB a0 msg idx l1 l2) e w' := by
  have d1 : ((l1.length : Int) == 18) = true := beq_iff_eq.mpr (by omega)
  have d2 : ((l1.length : Int) != 18) = false := bne_eq_false_iff_eq.mpr (by omega)
  have d3 : decide (8 < (l2.length : Int)) = false := decide_eq_false (by omega)
  have d4 : decide (8 < l2.length) = false := decide_eq_false (by omega)
  have d5 : decide ((idx : Int) < 0) = false := decide_eq_false (by omega)
  have hp : 2 ^ l2.length ≤ 256 := Nat.le_trans (pow_le h2) (by decide)
  have hpow : (2 : Int) ^ l2.length = ((2 ^ l2.length : Nat) : Int) := by simp
  generalize 2 ^ l2.length = Pw at *
  have d6 : wrap64 ((2 : Int) ^ min l2.length 64) = (Pw : Int) := by rw [Nat.min_eq_left (by omega), hpow]; unfold wrap64; omega
  clear hpow
  have d7 : decide ((Pw : Int) ≤ (idx : Int)) = false := decide_eq_false (by omega)
  have HO1 := Lib.hid o1
  have HO2 := Lib.hid o2
  have HH := Lib.hid (And.intro h1 (And.intro h2 (And.intro hz1 (And.intro hz2 (ends_need2 l1 (tx msg) h1 hz1)))))
  clear o1 o2 h1 h2 hz1 hz2
  refine callsIn_of_wp_marks Tryd.func33 rfl trivial ?_ rfl
  simp only [Tryd.ntmps33, List.size_toArray, List.length_cons, List.length_nil, Nat.reduceAdd, Nat.reduceSub, Array.replicate_succ, Array.replicate_zero, List.push_toArray, List.append_toArray, List.nil_append, List.cons_append]
  refine wpIn_wide.2 ?_
  refine wp_mono ?_ (noPanic_le _)
  go_wp2
  have BK := blk_new w (.cells #[.int .i64 (idx : Int), .slice A1 l1.length c1, .slice A2 l2.length c2] 35)
  have HB := below_alloc (Below.refl w.heap.size w) (.cells #[.int .i64 (idx : Int), .slice A1 l1.length c1, .slice A2 l2.length c2] 35)
  refine start_ (n := 32) (S := fun w' => w'.cell? ⟨w.heap.size, 0, none⟩ = some (.int .i64 (idx : Int)) ∧ w'.cell? ⟨w.heap.size, 1, none⟩ = some (.slice A1 l1.length c1) ∧ w'.cell? ⟨w.heap.size, 2, none⟩ = some (.slice A2 l2.length c2)) (ds := []) #[false, false, false, false, false, false, false, false, false, false, false, false, false, false, false, false, false, false, false, false, false, false, false, false, false, false, false, false, false, false, false, false] (by kernel_rfl) rfl rfl ⟨(blk_cell (blk_drew BK) 0).trans rfl, (blk_cell (blk_drew BK) 1).trans rfl, (blk_cell (blk_drew BK) 2).trans rfl⟩ (fun hHeld => ?_)
  replace BK := blk_drew BK
  replace HB := below_drew1 HB
  generalize (w.alloc (.cells #[.int .i64 (idx : Int), .slice A1 l1.length c1, .slice A2 l2.length c2] 35)).drew = Wd at BK HB hHeld ⊢
  refine pure_ (i := 0) (N := some 18) (v := ?_) (a' := ?_) #[true, false, false, false, false, false, false, false, false, false, false, false, false, false, false, false, false, false, false, false, false, false, false, false, false, false, false, false, false, false, false, false] rfl rfl (any_of rfl (by kernel_rfl)) (fun _ _ _ h => h) (Or.inl ⟨by rfl, ?_⟩) ?_ ?_
  rotate_left
  · intro w'
    go_simp
    with_reducible rfl
  rotate_left
  · simp only [Act.put, List.setIfInBounds_toArray, List.set_cons_zero, List.set_cons_succ, i64_w, i32_w]
    rfl
  refine take_ (i := 1) (N := some 19) (v := ?_) (a' := ?_) #[true, true, false, false, false, false, false, false, false, false, false, false, false, false, false, false, false, false, false, false, false, false, false, false, false, false, false, false, false, false, false, false] rfl rfl (take_of rfl (by kernel_rfl)) (fun _ _ _ h => h) (Or.inl ⟨by rfl, ?_⟩) hHeld ?_ ?_
  rotate_left
  · rintro w' ⟨s0, s1, s2⟩
    go_simp
    with_reducible rfl
  rotate_left
  · simp only [Act.put, List.setIfInBounds_toArray, List.set_cons_zero, List.set_cons_succ, i64_w, i32_w]
    rfl
  refine pure_ (i := 2) (N := some 20) (v := ?_) (a' := ?_) #[true, true, true, false, false, false, false, false, false, false, false, false, false, false, false, false, false, false, false, false, false, false, false, false, false, false, false, false, false, false, false, false] rfl rfl (any_of rfl (by kernel_rfl)) (fun _ _ _ h => h) (Or.inl ⟨by rfl, ?_⟩) ?_ ?_
  rotate_left
  · intro w'
    go_simp
    with_reducible rfl
  rotate_left
  · simp only [Act.put, List.setIfInBounds_toArray, List.set_cons_zero, List.set_cons_succ, i64_w, i32_w]
    rfl
  refine pure_ (i := 3) (N := some 21) (v := ?_) (a' := ?_) #[true, true, true, true, false, false, false, false, false, false, false, false, false, false, false, false, false, false, false, false, false, false, false, false, false, false, false, false, false, false, false, false] rfl rfl (any_of rfl (by kernel_rfl)) (fun _ _ _ h => h) (Or.inl ⟨by rfl, ?_⟩) ?_ ?_
  rotate_left
  · intro w'
    go_simp
    with_reducible rfl
  rotate_left
  · simp only [Act.put, List.setIfInBounds_toArray, List.set_cons_zero, List.set_cons_succ, i64_w, i32_w]
    rfl
  refine pure_ (i := 4) (N := some 22) (v := ?_) (a' := ?_) #[true, true, true, true, true, false, false, false, false, false, false, false, false, false, false, false, false, false, false, false, false, false, false, false, false, false, false, false, false, false, false, false] rfl rfl (any_of rfl (by kernel_rfl)) (fun _ _ _ h => h) (Or.inl ⟨by rfl, ?_⟩) ?_ ?_
  rotate_left
  · intro w'
    go_simp
    with_reducible rfl
  rotate_left
  · simp only [Act.put, List.setIfInBounds_toArray, List.set_cons_zero, List.set_cons_succ, i64_w, i32_w]
    rfl
  refine pure_ (i := 5) (N := some 23) (v := ?_) (a' := ?_) #[true, true, true, true, true, true, false, false, false, false, false, false, false, false, false, false, false, false, false, false, false, false, false, false, false, false, false, false, false, false, false, false] rfl rfl (any_of rfl (by kernel_rfl)) (fun _ _ _ h => h) (Or.inl ⟨by rfl, ?_⟩) ?_ ?_
  rotate_left
  · intro w'
    go_simp
    with_reducible rfl
  rotate_left
  · simp only [Act.put, List.setIfInBounds_toArray, List.set_cons_zero, List.set_cons_succ, i64_w, i32_w]
    rfl
  refine pure_ (i := 6) (N := some 24) (v := ?_) (a' := ?_) #[true, true, true, true, true, true, true, false, false, false, false, false, false, false, false, false, false, false, false, false, false, false, false, false, false, false, false, false, false, false, false, false] rfl rfl (any_of rfl (by kernel_rfl)) (fun _ _ _ h => h) (Or.inl ⟨by rfl, ?_⟩) ?_ ?_
  rotate_left
  · intro w'
    go_simp
    with_reducible rfl
  rotate_left
  · simp only [Act.put, List.setIfInBounds_toArray, List.set_cons_zero, List.set_cons_succ, i64_w, i32_w]
    rfl
  refine pure_ (i := 7) (N := some 25) (v := ?_) (a' := ?_) #[true, true, true, true, true, true, true, true, false, false, false, false, false, false, false, false, false, false, false, false, false, false, false, false, false, false, false, false, false, false, false, false] rfl rfl (any_of rfl (by kernel_rfl)) (fun _ _ _ h => h) (Or.inl ⟨by rfl, ?_⟩) ?_ ?_
  rotate_left
  · intro w'
    go_simp
    with_reducible rfl
  rotate_left
  · simp only [Act.put, List.setIfInBounds_toArray, List.set_cons_zero, List.set_cons_succ, i64_w, i32_w]
    rfl
  refine pure_ (i := 8) (N := some 26) (v := ?_) (a' := ?_) #[true, true, true, true, true, true, true, true, true, false, false, false, false, false, false, false, false, false, false, false, false, false, false, false, false, false, false, false, false, false, false, false] rfl rfl (any_of rfl (by kernel_rfl)) (fun _ _ _ h => h) (Or.inl ⟨by rfl, ?_⟩) ?_ ?_
  rotate_left
  · intro w'
    go_simp
    with_reducible rfl
  rotate_left
  · simp only [Act.put, List.setIfInBounds_toArray, List.set_cons_zero, List.set_cons_succ, i64_w, i32_w]
    rfl
  refine pure_ (i := 9) (N := some 27) (v := ?_) (a' := ?_) #[true, true, true, true, true, true, true, true, true, true, false, false, false, false, false, false, false, false, false, false, false, false, false, false, false, false, false, false, false, false, false, false] rfl rfl (any_of rfl (by kernel_rfl)) (fun _ _ _ h => h) (Or.inl ⟨by rfl, ?_⟩) ?_ ?_
  rotate_left
  · intro w'
    go_simp
    with_reducible rfl
  rotate_left
  · simp only [Act.put, List.setIfInBounds_toArray, List.set_cons_zero, List.set_cons_succ, i64_w, i32_w]
    rfl
  refine pure_ (i := 10) (N := some 28) (v := ?_) (a' := ?_) #[true, true, true, true, true, true, true, true, true, true, true, false, false, false, false, false, false, false, false, false, false, false, false, false, false, false, false, false, false, false, false, false] rfl rfl (any_of rfl (by kernel_rfl)) (fun _ _ _ h => h) (Or.inl ⟨by rfl, ?_⟩) ?_ ?_
  rotate_left
  · intro w'
    go_simp
    with_reducible rfl
  rotate_left
  · simp only [Act.put, List.setIfInBounds_toArray, List.set_cons_zero, List.set_cons_succ, i64_w, i32_w]
    rfl
  refine take_ (i := 11) (N := some 29) (v := ?_) (a' := ?_) #[true, true, true, true, true, true, true, true, true, true, true, true, false, false, false, false, false, false, false, false, false, false, false, false, false, false, false, false, false, false, false, false] rfl rfl (take_of rfl (by kernel_rfl)) (fun _ _ _ h => h) (Or.inl ⟨by rfl, ?_⟩) hHeld ?_ ?_
  rotate_left
  · rintro w' ⟨s0, s1, s2⟩
    go_simp
    with_reducible rfl
  rotate_left
  · simp only [Act.put, List.setIfInBounds_toArray, List.set_cons_zero, List.set_cons_succ, i64_w, i32_w]
    rfl
  refine one_ (i := 12) (N := some 30) #[true, true, true, true, true, true, true, true, true, true, true, true, true, false, false, false, false, false, false, false, false, false, false, false, false, false, false, false, false, false, false, false] rfl rfl (one_of rfl (by kernel_rfl)) (by decide) (fun K hK => ?_)
  refine goesV_ 60 Tryd.func60 (by kernel_rfl) rfl #[.slice A1 l1.length c1] (by rfl) rfl rfl rfl (by (try simp only [List.map_toArray, List.map_cons, List.map_nil]); first | done | rfl) ?_
  refine ((HO1.out Wd HB).mono ?_)
  rintro e W1 ⟨rfl, hb⟩
  refine ⟨_, rfl, ?_⟩
  replace BK := blk_below BK hb
  replace HB := HB.trans (hb.mono HB.size)
  refine hK.out _ _ ⟨(blk_cell BK 0).trans rfl, (blk_cell BK 1).trans rfl, (blk_cell BK 2).trans rfl⟩ (fun hHeld1 => ?_)
  clear hHeld hb
  have hHeld := hHeld1
  clear hHeld1
  clear hK K
  refine norm_ (a' := ?_) ?_ ?_
  rotate_left
  · show Act.put _ (some 30) _ = _
    simp only [Act.put, List.setIfInBounds_toArray, List.set_cons_zero, List.set_cons_succ, i64_w, i32_w]
    rfl
  refine pure_ (i := 13) (N := some 31) (v := ?_) (a' := ?_) #[true, true, true, true, true, true, true, true, true, true, true, true, true, true, false, false, false, false, false, false, false, false, false, false, false, false, false, false, false, false, false, false] rfl rfl (any_of rfl (by kernel_rfl)) (fun _ _ _ h => h) (Or.inl ⟨by rfl, ?_⟩) ?_ ?_
  rotate_left
  · intro w'
    go_simp
    with_reducible rfl
  rotate_left
  · simp only [Act.put, List.setIfInBounds_toArray, List.set_cons_zero, List.set_cons_succ, i64_w, i32_w]
    rfl
  refine pure_ (i := 14) (N := some 32) (v := ?_) (a' := ?_) #[true, true, true, true, true, true, true, true, true, true, true, true, true, true, true, false, false, false, false, false, false, false, false, false, false, false, false, false, false, false, false, false] rfl rfl (any_of rfl (by kernel_rfl)) (fun _ _ _ h => h) (Or.inl ⟨by rfl, ?_⟩) ?_ ?_
  rotate_left
  · intro w'
    go_simp
    with_reducible rfl
  rotate_left
  · simp only [Act.put, List.setIfInBounds_toArray, List.set_cons_zero, List.set_cons_succ, i64_w, i32_w]
    rfl
  refine pure_ (i := 15) (N := some 33) (v := ?_) (a' := ?_) #[true, true, true, true, true, true, true, true, true, true, true, true, true, true, true, true, false, false, false, false, false, false, false, false, false, false, false, false, false, false, false, false] rfl rfl (any_of rfl (by kernel_rfl)) (fun _ _ _ h => h) (Or.inl ⟨by rfl, ?_⟩) ?_ ?_
  rotate_left
  · intro w'
    go_simp
    with_reducible rfl
  rotate_left
  · simp only [Act.put, List.setIfInBounds_toArray, List.set_cons_zero, List.set_cons_succ, i64_w, i32_w]
    rfl
  refine pure_ (i := 16) (N := some 34) (v := ?_) (a' := ?_) #[true, true, true, true, true, true, true, true, true, true, true, true, true, true, true, true, true, false, false, false, false, false, false, false, false, false, false, false, false, false, false, false] rfl rfl (any_of rfl (by kernel_rfl)) (fun _ _ _ h => h) (Or.inl ⟨by rfl, ?_⟩) ?_ ?_
  rotate_left
  · intro w'
    go_simp
    with_reducible rfl
  rotate_left
  · simp only [Act.put, List.setIfInBounds_toArray, List.set_cons_zero, List.set_cons_succ, i64_w, i32_w]
    rfl
  refine take_ (i := 17) (N := some 35) (v := ?_) (a' := ?_) #[true, true, true, true, true, true, true, true, true, true, true, true, true, true, true, true, true, true, false, false, false, false, false, false, false, false, false, false, false, false, false, false] rfl rfl (take_of rfl (by kernel_rfl)) (fun _ _ _ h => h) (Or.inl ⟨by rfl, ?_⟩) hHeld ?_ ?_
  rotate_left
  · rintro w' ⟨s0, s1, s2⟩
    go_simp
    with_reducible rfl
  rotate_left
  · simp only [Act.put, List.setIfInBounds_toArray, List.set_cons_zero, List.set_cons_succ, i64_w, i32_w]
    rfl
  refine one_ (i := 18) (N := some 36) #[true, true, true, true, true, true, true, true, true, true, true, true, true, true, true, true, true, true, true, false, false, false, false, false, false, false, false, false, false, false, false, false] rfl rfl (one_of rfl (by kernel_rfl)) (by decide) (fun K hK => ?_)
  refine goesV_ 60 Tryd.func60 (by kernel_rfl) rfl #[.slice A2 l2.length c2] (by rfl) rfl rfl rfl (by (try simp only [List.map_toArray, List.map_cons, List.map_nil]); first | done | rfl) ?_
  refine ((HO2.out W1 HB).mono ?_)
  rintro e W2 ⟨rfl, hb⟩
  refine ⟨_, rfl, ?_⟩
  replace BK := blk_below BK hb
  replace HB := HB.trans (hb.mono HB.size)
  refine hK.out _ _ ⟨(blk_cell BK 0).trans rfl, (blk_cell BK 1).trans rfl, (blk_cell BK 2).trans rfl⟩ (fun hHeld1 => ?_)
  clear hHeld hb
  have hHeld := hHeld1
  clear hHeld1
  clear hK K
  refine norm_ (a' := ?_) ?_ ?_
  rotate_left
  · show Act.put _ (some 36) _ = _
    simp only [Act.put, List.setIfInBounds_toArray, List.set_cons_zero, List.set_cons_succ, i64_w, i32_w]
    rfl
  refine pure_ (i := 19) (N := some 37) (v := ?_) (a' := ?_) #[true, true, true, true, true, true, true, true, true, true, true, true, true, true, true, true, true, true, true, true, false, false, false, false, false, false, false, false, false, false, false, false] rfl rfl (any_of rfl (by kernel_rfl)) (fun _ _ _ h => h) (Or.inl ⟨by rfl, ?_⟩) ?_ ?_
  rotate_left
  · intro w'
    go_simp
    with_reducible rfl
  rotate_left
  · simp only [Act.put, List.setIfInBounds_toArray, List.set_cons_zero, List.set_cons_succ, i64_w, i32_w]
    rfl
  refine pure_ (i := 20) (N := some 38) (v := ?_) (a' := ?_) #[true, true, true, true, true, true, true, true, true, true, true, true, true, true, true, true, true, true, true, true, true, false, false, false, false, false, false, false, false, false, false, false] rfl rfl (any_of rfl (by kernel_rfl)) (fun _ _ _ h => h) (Or.inl ⟨by rfl, ?_⟩) ?_ ?_
  rotate_left
  · intro w'
    go_simp
    with_reducible rfl
  rotate_left
  · simp only [Act.put, List.setIfInBounds_toArray, List.set_cons_zero, List.set_cons_succ, i64_w, i32_w]
    rfl
  refine pure_ (i := 21) (N := some 39) (v := ?_) (a' := ?_) #[true, true, true, true, true, true, true, true, true, true, true, true, true, true, true, true, true, true, true, true, true, true, false, false, false, false, false, false, false, false, false, false] rfl rfl (any_of rfl (by kernel_rfl)) (fun _ _ _ h => h) (Or.inl ⟨by rfl, ?_⟩) ?_ ?_
  rotate_left
  · intro w'
    go_simp
    with_reducible rfl
  rotate_left
  · simp only [Act.put, List.setIfInBounds_toArray, List.set_cons_zero, List.set_cons_succ, i64_w, i32_w]
    rfl
  refine take_ (i := 22) (N := some 40) (v := ?_) (a' := ?_) #[true, true, true, true, true, true, true, true, true, true, true, true, true, true, true, true, true, true, true, true, true, true, true, false, false, false, false, false, false, false, false, false] rfl rfl (take_of rfl (by kernel_rfl)) (fun _ _ _ h => h) (Or.inl ⟨by rfl, ?_⟩) hHeld ?_ ?_
  rotate_left
  · rintro w' ⟨s0, s1, s2⟩
    go_simp
    with_reducible rfl
  rotate_left
  · simp only [Act.put, List.setIfInBounds_toArray, List.set_cons_zero, List.set_cons_succ, i64_w, i32_w]
    rfl
  refine pure_ (i := 23) (N := some 41) (v := ?_) (a' := ?_) #[true, true, true, true, true, true, true, true, true, true, true, true, true, true, true, true, true, true, true, true, true, true, true, true, false, false, false, false, false, false, false, false] rfl rfl (any_of rfl (by kernel_rfl)) (fun _ _ _ h => h) (Or.inl ⟨by rfl, ?_⟩) ?_ ?_
  rotate_left
  · intro w'
    go_simp
    with_reducible rfl
  rotate_left
  · simp only [Act.put, List.setIfInBounds_toArray, List.set_cons_zero, List.set_cons_succ, i64_w, i32_w]
    rfl
  refine pure_ (i := 24) (N := some 42) (v := ?_) (a' := ?_) #[true, true, true, true, true, true, true, true, true, true, true, true, true, true, true, true, true, true, true, true, true, true, true, true, true, false, false, false, false, false, false, false] rfl rfl (any_of rfl (by kernel_rfl)) (fun _ _ _ h => h) (Or.inl ⟨by rfl, ?_⟩) ?_ ?_
  rotate_left
  · intro w'
    go_simp
    with_reducible rfl
  rotate_left
  · simp only [Act.put, List.setIfInBounds_toArray, List.set_cons_zero, List.set_cons_succ, i64_w, i32_w]
    rfl
  refine pure_ (i := 25) (N := some 43) (v := ?_) (a' := ?_) #[true, true, true, true, true, true, true, true, true, true, true, true, true, true, true, true, true, true, true, true, true, true, true, true, true, true, false, false, false, false, false, false] rfl rfl (any_of rfl (by kernel_rfl)) (fun _ _ _ h => h) (Or.inl ⟨by rfl, ?_⟩) ?_ ?_
  rotate_left
  · intro w'
    go_simp
    with_reducible rfl
  rotate_left
  · simp only [Act.put, List.setIfInBounds_toArray, List.set_cons_zero, List.set_cons_succ, i64_w, i32_w]
    rfl
  refine pure_ (i := 26) (N := some 44) (v := ?_) (a' := ?_) #[true, true, true, true, true, true, true, true, true, true, true, true, true, true, true, true, true, true, true, true, true, true, true, true, true, true, true, false, false, false, false, false] rfl rfl (any_of rfl (by kernel_rfl)) (fun _ _ _ h => h) (Or.inl ⟨by rfl, ?_⟩) ?_ ?_
  rotate_left
  · intro w'
    go_simp
    with_reducible rfl
  rotate_left
  · simp only [Act.put, List.setIfInBounds_toArray, List.set_cons_zero, List.set_cons_succ, i64_w, i32_w]
    rfl
  refine take_ (i := 27) (N := some 45) (v := ?_) (a' := ?_) #[true, true, true, true, true, true, true, true, true, true, true, true, true, true, true, true, true, true, true, true, true, true, true, true, true, true, true, true, false, false, false, false] rfl rfl (take_of rfl (by kernel_rfl)) (fun _ _ _ h => h) (Or.inl ⟨by rfl, ?_⟩) hHeld ?_ ?_
  rotate_left
  · rintro w' ⟨s0, s1, s2⟩
    go_simp
    with_reducible rfl
  rotate_left
  · simp only [Act.put, List.setIfInBounds_toArray, List.set_cons_zero, List.set_cons_succ, i64_w, i32_w]
    rfl
  refine pure_ (i := 28) (N := some 46) (v := ?_) (a' := ?_) #[true, true, true, true, true, true, true, true, true, true, true, true, true, true, true, true, true, true, true, true, true, true, true, true, true, true, true, true, true, false, false, false] rfl rfl (any_of rfl (by kernel_rfl)) (fun _ _ _ h => h) (Or.inl ⟨by rfl, ?_⟩) ?_ ?_
  rotate_left
  · intro w'
    go_simp
    with_reducible rfl
  rotate_left
  · simp only [Act.put, List.setIfInBounds_toArray, List.set_cons_zero, List.set_cons_succ, i64_w, i32_w]
    rfl
  refine pure_ (i := 29) (N := some 47) (v := ?_) (a' := ?_) #[true, true, true, true, true, true, true, true, true, true, true, true, true, true, true, true, true, true, true, true, true, true, true, true, true, true, true, true, true, true, false, false] rfl rfl (any_of rfl (by kernel_rfl)) (fun _ _ _ h => h) (Or.inl ⟨by rfl, ?_⟩) ?_ ?_
  rotate_left
  · intro w'
    go_simp
    with_reducible rfl
  rotate_left
  · simp only [Act.put, List.setIfInBounds_toArray, List.set_cons_zero, List.set_cons_succ, i64_w, i32_w]
    rfl
  refine pure_ (i := 30) (N := some 48) (v := ?_) (a' := ?_) #[true, true, true, true, true, true, true, true, true, true, true, true, true, true, true, true, true, true, true, true, true, true, true, true, true, true, true, true, true, true, true, false] rfl rfl (any_of rfl (by kernel_rfl)) (fun _ _ _ h => h) (Or.inl ⟨by rfl, ?_⟩) ?_ ?_
  rotate_left
  · intro w'
    go_simp
    with_reducible rfl
  rotate_left
  · simp only [Act.put, List.setIfInBounds_toArray, List.set_cons_zero, List.set_cons_succ, i64_w, i32_w]
    rfl
  refine pure_ (i := 31) (N := some 49) (v := ?_) (a' := ?_) #[true, true, true, true, true, true, true, true, true, true, true, true, true, true, true, true, true, true, true, true, true, true, true, true, true, true, true, true, true, true, true, true] rfl rfl (any_of rfl (by kernel_rfl)) (fun _ _ _ h => h) (Or.inl ⟨by rfl, ?_⟩) ?_ ?_
  rotate_left
  · intro w'
    go_simp
    with_reducible rfl
  rotate_left
  · simp only [Act.put, List.setIfInBounds_toArray, List.set_cons_zero, List.set_cons_succ, i64_w, i32_w]
    rfl
  refine done_ (done_of rfl (by kernel_rfl)) ?_
  clear d1 d2 d3 d4 d5 d6 d7 hHeld
  go_wp2_with (go_at_call 52; refine (callsIn_wide.1 (digits_in 5 msg _)).mono ?_; rintro e w1 ⟨rfl, rfl⟩)
  have bO := Boxed.new W2 22 (.slice none 0 0)
  have bO' := bO.alloc (.cells #[.string msg] 9)
  have bM := blk_new (W2.alloc (.cells #[.slice none 0 0] 22)) (.cells #[.string msg] 9)
  rw [World.size_alloc] at bM
  have bM' : ((W2.alloc (.cells #[.slice none 0 0] 22)).alloc (.cells #[.string msg] 9)).cell? ⟨W2.heap.size + 1, 0, none⟩ = some (.string msg) := (blk_cell bM 0).trans rfl
  have BK0 := blk_alloc (blk_alloc BK (.cells #[.slice none 0 0] 22)) (.cells #[.string msg] 9)
  have HB0 := below_alloc (below_alloc HB (.cells #[.slice none 0 0] 22)) (.cells #[.string msg] 9)
  have hgl := blk_lt BK
  obtain ⟨W0, hW0⟩ : ∃ W0, (W2.alloc (.cells #[.slice none 0 0] 22)).alloc (.cells #[.string msg] 9) = W0 := ⟨_, rfl⟩
  have hsz : W0.heap.size = W2.heap.size + 2 := by rw [← hW0]; simp
  rw [hW0] at bO' bM' BK0 HB0 ⊢
  clear hW0 bO bM BK HB
  have hst := digits_stops 4 (by decide) (W2.heap.size + 1) msg hm W0 (by omega) bM'
  have hbase := HB0.size
  have h1o := holdsRow_own (β := List (Fin 18)) W0.heap.size W2.heap.size 22 9 1 (fun pre => pre.length) (fun pre => pre.map fun j => Value.string (endAt l1 (tx msg) j.val)) (fun pre v => True)
  have o1 : OwnFrom W0.heap.size (fun (pre : List (Fin 18)) W => ∃ v, Boxed W W2.heap.size 22 v ∧ W.ownsRow W0.heap.size 9 1 v pre.length (pre.map fun j => Value.string (endAt l1 (tx msg) j.val)) ∧ True) := fun pre X Y row hs hg hr => h1o pre X Y row hs hg (fun r e => (hr r e).2)
  have o2 : OwnFrom W0.heap.size (fun (pre : List (Fin 18)) W => W.heap[w.heap.size]? = some (.cells #[.int .i64 (idx : Int), .slice A1 l1.length c1, .slice A2 l2.length c2] 35 (0, 0))) := blk_own _ _ _ _
  have o3 : OwnFrom W0.heap.size (fun (pre : List (Fin 18)) W => Below w.heap.size w W) := ownFrom_below (Nat.le_refl _) (by omega)
  have o4 : OwnFrom W0.heap.size (fun (pre : List (Fin 18)) W => W0.heap.size ≤ W.heap.size) := fun _ X Y row h hg _ => Nat.le_trans h hg.size
  refine (wpIn_wide (n := 5)).1 ?_
  refine wpIn_rangeFunc_ownG rfl (by decide) (gf := 83) (lb := #[.pointer (some ⟨W2.heap.size + 1, 0, none⟩)]) rfl trivial (enters_of Tryd.func83 (by kernel_rfl) rfl)
    hst (fun _ _ => trivial) (fun _ _ _ _ _ _ _ _ => trivial) (Below.refl _ _) (fun _ => rfl) _ (fun _ _ _ => False) (OwnFrom.and (OwnFrom.and o1 o2) (OwnFrom.and o3 o4)) (fun _ _ _ _ _ hs _ _ => hs) ⟨⟨⟨_, bO', World.ownsRow_nil _ _ _ _, trivial⟩, BK0⟩, HB0, Nat.le_refl _⟩
    (fun x => { tmps := #[.string a0, .string msg, .agg #[.int .i64 (idx : Int), .slice A1 l1.length c1, .slice A2 l2.length c2], undef, undef, .pointer (some ⟨w.heap.size, 0, none⟩), .bool false, .int .i64 (l2.length : Int), .func (.func 60) #[] #[], .pointer (some ⟨W2.heap.size, 0, none⟩), .int .i64 ((x.val : Nat) : Int), .int .i64 ((dAt (tx msg) x.val : Nat) : Int), undef, undef, undef, .pointer (some ⟨w.heap.size, 2, none⟩), .slice A2 l2.length c2, .int .i64 (l2.length : Int), .pointer (some ⟨w.heap.size, 1, none⟩), .slice A1 l1.length c1, .int .i64 (l1.length : Int), .bool false, .bool false, .int .i64 (l2.length : Int), .bool false, .bool false, .bool false, .func (.func 60) #[] #[], .pointer (some ⟨w.heap.size, 1, none⟩), .slice A1 l1.length c1, .bool false, .bool false, .bool false, .func (.func 60) #[] #[], .pointer (some ⟨w.heap.size, 2, none⟩), .slice A2 l2.length c2, .bool false, .bool false, .bool false, .pointer (some ⟨w.heap.size, 0, none⟩), .int .i64 (idx : Int), .bool false, .bool false, .bool false, .pointer (some ⟨w.heap.size, 0, none⟩), .int .i64 (idx : Int), .int .i64 (l2.length : Int), .int .i64 (wrap64 ((2 : Int) ^ min l2.length 64)), .bool false, .bool false, .string msg, .func (.func 83) #[] #[.pointer (some ⟨W2.heap.size + 1, 0, none⟩)], .int .i64 ((x.val : Nat) : Int), .int .i64 ((dAt (tx msg) x.val : Nat) : Int), undef, undef, undef, undef, undef, undef, undef, undef, undef, undef, undef, undef, undef, undef, undef, undef, undef, undef, undef, undef, undef, undef, undef, undef, undef, undef, undef, undef, undef, undef, undef, undef, undef, undef], defers := [] }) ?assign ?body ?done ?stop
  case assign =>
    intro l x W K hK
    gi_wp2
    exact hK
  case stop =>
    rintro D c pre W _ _ h _
    exact h.elim
  case body =>
    rintro lr pre x W ⟨⟨⟨v, hv, hrow, -⟩, hbk⟩, hB, hN⟩ hlt
    dsimp only
    refine wpIn_block ?_
    refine region_in (noDefer_of (by kernel_rfl)) ?hlo (by kernel_rfl) ?_
    case hlo => rintro ⟨a, w', h⟩; exact h
    have hxl : x.val < l1.length := by have := x.isLt; have := HH.out.1; omega
    obtain ⟨ad, hA, hcell⟩ := Kd.at_string (Kd.C_below hr1 hB) ((x.val : Nat) : Int) (by omega) (by omega)
    subst hA
    rw [Int.toNat_natCast] at hcell
    unfold rdOf at hcell
    rw [Int.toNat_natCast] at hcell
    have hts := HH.out.2.2.1 _ (getD_mem hxl)
    have hd15 := dAt_le (tx msg) x.val
    obtain ⟨d, hd⟩ : ∃ d, d = dAt (tx msg) x.val := ⟨_, rfl⟩
    obtain ⟨ts, htse⟩ : ∃ ts, ts = l1.getD x.val ByteArray.empty := ⟨_, rfl⟩
    obtain ⟨t62, h62⟩ : ∃ r, r = endAt l1 (tx msg) x.val := ⟨_, rfl⟩
    rw [← htse] at hts hcell
    rw [← hd] at hd15 ⊢
    have hf2 : seal_chain.f ts ((15 - d : Nat) : Int) = some t62 := by
      rw [h62, sChain _ _ (by omega) (by omega), htse, hd]; rfl
    have Hr := Lib.hid (And.intro h62 (And.intro hd htse))
    have F2 := Lib.hid hf2
    clear hf2 h62 hd htse
    have hr0 := (hv.cell)
    refine wpAny_of_last (S := fun w' => w'.cell? ⟨W2.heap.size, 0, none⟩ = some v ∧ w'.cell? ⟨w.heap.size, 1, none⟩ = some (.slice (some ad) l1.length c1) ∧ w'.cell? (ad.add x.val) = some (.string ts)) (ds := [10, 11]) _ _ _ _ ?_
    show wpAnyLast _ _ _ _ _ _ 12 (#[false, false, false, false, false, false, false, false, false, false, false, false] : Array Bool) _ W.drew
    have hHeld : W.drew.cell? ⟨W2.heap.size, 0, none⟩ = some v ∧ W.drew.cell? ⟨w.heap.size, 1, none⟩ = some (.slice (some ad) l1.length c1) ∧ W.drew.cell? (ad.add x.val) = some (.string ts) := ⟨hr0, (blk_cell hbk 1).trans rfl, hcell⟩
    generalize hWd : W.drew = Wd at hHeld ⊢
    have hq1 : ((x.val : Nat) : Int) < (l1.length : Int) := by omega
    have hsub : IntKind.i64.wrap (15 - (d : Int)) = ((15 - d : Nat) : Int) := by rw [IntWalk.i64_in _ (by omega)]; omega
    refine take_ (i := 0) (N := some 54) (v := ?_) (a' := ?_) #[true, false, false, false, false, false, false, false, false, false, false, false] rfl rfl (take_of rfl (by kernel_rfl)) (fun _ _ _ h => h) (Or.inl ⟨by rfl, ?_⟩) hHeld ?_ ?_
    rotate_left
    · rintro w' ⟨s0, s1, s2⟩
      go_simp
      with_reducible rfl
    rotate_left
    · simp only [Act.put, List.setIfInBounds_toArray, List.set_cons_zero, List.set_cons_succ, i64_w, i32_w]
      rfl
    refine pure_ (i := 1) (N := some 55) (v := ?_) (a' := ?_) #[true, true, false, false, false, false, false, false, false, false, false, false] rfl rfl (any_of rfl (by kernel_rfl)) (fun _ _ _ h => h) (Or.inl ⟨by rfl, ?_⟩) ?_ ?_
    rotate_left
    · intro w'
      go_simp
      with_reducible rfl
    rotate_left
    · simp only [Act.put, List.setIfInBounds_toArray, List.set_cons_zero, List.set_cons_succ, i64_w, i32_w]
      rfl
    refine take_ (i := 2) (N := some 56) (v := ?_) (a' := ?_) #[true, true, true, false, false, false, false, false, false, false, false, false] rfl rfl (take_of rfl (by kernel_rfl)) (fun _ _ _ h => h) (Or.inl ⟨by rfl, ?_⟩) hHeld ?_ ?_
    rotate_left
    · rintro w' ⟨s0, s1, s2⟩
      go_simp
      with_reducible rfl
    rotate_left
    · simp only [Act.put, List.setIfInBounds_toArray, List.set_cons_zero, List.set_cons_succ, i64_w, i32_w]
      rfl
    refine pure_ (i := 3) (N := some 57) (v := ?_) (a' := ?_) #[true, true, true, true, false, false, false, false, false, false, false, false] rfl rfl (any_of rfl (by kernel_rfl)) (fun _ _ _ h => h) (Or.inl ⟨by rfl, ?_⟩) ?_ ?_
    rotate_left
    · intro w'
      go_simp
      with_reducible rfl
    rotate_left
    · simp only [Act.put, List.setIfInBounds_toArray, List.set_cons_zero, List.set_cons_succ, i64_w, i32_w]
      rfl
    refine pure_ (i := 4) (N := some 58) (v := ?_) (a' := ?_) #[true, true, true, true, true, false, false, false, false, false, false, false] rfl rfl (any_of rfl (by kernel_rfl)) (fun _ _ _ h => h) (Or.inl ⟨by rfl, ?_⟩) ?_ ?_
    rotate_left
    · intro w'
      go_simp
      with_reducible rfl
    rotate_left
    · simp only [Act.put, List.setIfInBounds_toArray, List.set_cons_zero, List.set_cons_succ, i64_w, i32_w]
      rfl
    refine take_ (i := 5) (N := some 59) (v := ?_) (a' := ?_) #[true, true, true, true, true, true, false, false, false, false, false, false] rfl rfl (take_of rfl (by kernel_rfl)) (fun _ _ _ h => h) (Or.inl ⟨by rfl, ?_⟩) hHeld ?_ ?_
    rotate_left
    · rintro w' ⟨s0, s1, s2⟩
      go_simp
      with_reducible rfl
    rotate_left
    · simp only [Act.put, List.setIfInBounds_toArray, List.set_cons_zero, List.set_cons_succ, i64_w, i32_w]
      rfl
    refine pure_ (i := 6) (N := some 60) (v := ?_) (a' := ?_) #[true, true, true, true, true, true, true, false, false, false, false, false] rfl rfl (any_of rfl (by kernel_rfl)) (fun _ _ _ h => h) (Or.inl ⟨by rfl, ?_⟩) ?_ ?_
    rotate_left
    · intro w'
      go_simp
      with_reducible rfl
    rotate_left
    · simp only [Act.put, List.setIfInBounds_toArray, List.set_cons_zero, List.set_cons_succ, i64_w, i32_w]
      rfl
    refine pure_ (i := 7) (N := some 61) (v := ?_) (a' := ?_) #[true, true, true, true, true, true, true, true, false, false, false, false] rfl rfl (any_of rfl (by kernel_rfl)) (fun _ _ _ h => h) (Or.inl ⟨by rfl, ?_⟩) ?_ ?_
    rotate_left
    · intro w'
      go_simp
      with_reducible rfl
    rotate_left
    · simp only [Act.put, List.setIfInBounds_toArray, List.set_cons_zero, List.set_cons_succ, i64_w, i32_w]
      rfl
    have hbd : Below w.heap.size w Wd := by rw [← hWd]; exact hB.drew
    have bv : Boxed Wd W2.heap.size 22 v := by rw [← hWd]; exact hv
    have brow : Wd.ownsRow W0.heap.size 9 1 v pre.length (pre.map fun j => Value.string (endAt l1 (tx msg) j.val)) := by rw [← hWd]; exact hrow.drew
    have bk : Wd.heap[w.heap.size]? = some (.cells #[.int .i64 (idx : Int), .slice (some ad) l1.length c1, .slice A2 l2.length c2] 35 (0, 0)) := by rw [← hWd]; exact hbk
    have k1 : KeepsOthers W Wd := by rw [← hWd]; exact KeepsOthers.drew W
    have hNd : W0.heap.size ≤ Wd.heap.size := Nat.le_trans hN k1.size
    have hadl : (ad.add x.val).block < w.heap.size := by
      obtain ⟨ad', hA', hcell'⟩ := Kd.at_string hr1 ((x.val : Nat) : Int) (by omega) (by omega)
      cases hA'
      rw [Int.toNat_natCast] at hcell'
      exact World.block_lt_of_cell? _ _ hcell'
    clear hr0 hsub hq1 hv hrow hbk hcell hWd
    refine one_ (i := 8) (N := some 62) #[true, true, true, true, true, true, true, true, true, false, false, false] rfl rfl (one_of rfl (by kernel_rfl)) (by decide) (fun K hK => ?_)
    refine goes_ Tryd.func53 (by kernel_rfl) rfl #[.string ts, .int .i64 ((15 - d : Nat) : Int)] (by rfl) rfl rfl (by (try simp only [List.map_toArray, List.map_cons, List.map_nil]); first | done | rfl) ?_
    refine (seal_chain.calls _ _ t62 Wd F2.out).mono ?_
    rintro e W3 ⟨rfl, hb2⟩
    refine ⟨_, rfl, ?_⟩
    have hgd2 : Wd.grownBy W3 none := ⟨hb2.os, hb2.tape, hb2.output, hb2.size, fun k hk _ => hb2.block k hk⟩
    replace bv := bv.kept hgd2 (by simp)
    replace brow := brow.kept hgd2 (Classical.em _)
    replace bk := blk_below bk hb2
    replace hbd := hbd.trans (hb2.mono hbd.size)
    replace k1 := k1.trans (KeepsOthers.of_grownBy (row := none) hgd2 (fun j o ej _ => by cases ej))
    replace hNd := Nat.le_trans hNd hb2.size
    refine hK.out _ _ ⟨bv.cell, (blk_cell bk 1).trans rfl, (hb2.cell (World.block_lt_of_cell? _ _ hHeld.2.2)).trans hHeld.2.2⟩ (fun hHeld1 => ?_)
    clear hHeld hb2 hgd2
    have hHeld := hHeld1
    clear hHeld1
    clear hK K
    refine norm_ (a' := ?_) ?_ ?_
    rotate_left
    · show Act.put _ (some 62) _ = _
      simp only [Act.put, List.setIfInBounds_toArray, List.set_cons_zero, List.set_cons_succ, i64_w, i32_w]
      rfl
    refine one_ (i := 9) (N := some 63) #[true, true, true, true, true, true, true, true, true, true, false, false] rfl rfl (one_of rfl (by kernel_rfl)) (by decide) (fun K hK => ?_)
    refine value_ (w1 := ?_) (v := ?_) (by rfl) rfl ?_ ?_
    rotate_left 2
    · go_simp
      constructor
      · rfl
      · rfl
    refine hK.out _ _ ⟨(bv.alloc _).cell, (blk_cell (blk_alloc bk _) 1).trans rfl, (World.cell?_alloc_lt _ _ _ (World.block_lt_of_cell? _ _ hHeld.2.2)).trans hHeld.2.2⟩ (fun hHeld1 => ?_)
    clear hHeld hHeld1
    clear hK K
    refine norm_ (a' := ?_) ?_ ?_
    rotate_left
    · show Act.put _ (some 63) _ = _
      simp only [Act.put, List.setIfInBounds_toArray, List.set_cons_zero, List.set_cons_succ, i64_w, i32_w]
      rfl
    refine last_ (i := 10) (N := some 64) #[true, true, true, true, true, true, true, true, true, true, true, false] rfl rfl (one_of rfl (by kernel_rfl)) (by decide) (fun K hK => ?_)
    refine step_append_cells (w0 := W3) W0.heap.size ?hwant (.tmp 54) (.tmp 63) 22 9 (.string ⟨#[]⟩) 1 16 ?hop Tryd.underlying22 PCb.info9 rfl (by decide) (by omega) v pre.length _ [.string t62] ?hsv ?hxv rfl (by simp [Value.oneCell']) brow (Below.refl _ _) hNd (by omega) ?_
    (case hop => rfl)
    (case hwant => rfl)
    (case hsv => rfl)
    (case hxv => rfl)
    intro v1 w2 hown2 hb2 hg2 hat2
    obtain ⟨g', cap', rfl⟩ := ownsRow_succ hown2
    refine hK.out _ _ ?_
    clear hK K
    refine norm_ (a' := ?_) ?_ ?_
    rotate_left
    · show Act.put _ (some 64) _ = _
      simp only [Act.put, List.setIfInBounds_toArray, List.set_cons_zero, List.set_cons_succ, i64_w, i32_w]
      rfl
    have bv2 : Boxed w2 W2.heap.size 22 v := bv.kept hg2 (row_ne brow (by omega))
    have bk2 := blk_grown bk hg2 (row_ne brow (by omega))
    have hc2' := bv2.cell
    have hf2' := bv2.frozen
    refine last_ (i := 11) (N := none) #[true, true, true, true, true, true, true, true, true, true, true, true] rfl rfl (one_of rfl (by kernel_rfl)) (by decide) (fun K hK => ?_)
    refine skip_ (w1 := ?_) (by rfl) rfl ?_ ?_
    rotate_left
    · go_simp
      rfl
    refine hK.out _ _ ?_
    clear hK K
    refine done_ (done_of rfl (by kernel_rfl)) ?_
    clear hc2' hf2'
    have k2 : KeepsOthers W3 w2 := KeepsOthers.of_grownBy hg2 fun j o ej hj => by
      rcases brow.2 with ⟨rfl, _⟩ | ⟨g, cap, cur, rfl, _, hgb, _⟩
      · simp [Value.ownBlock] at ej
      · obtain rfl : j = g := by simpa [Value.ownBlock] using ej.symm
        rw [hgb] at hj; cases hj; rfl
    have k3 := (k1.trans k2).trans (KeepsOthers.setCell w2 ⟨W2.heap.size, 0, none⟩ (.slice (some ⟨g', 0, none⟩) (pre.length + 1) cap'))
    have hB3 : Below w.heap.size w (w2.setCell ⟨W2.heap.size, 0, none⟩ (.slice (some ⟨g', 0, none⟩) (pre.length + 1) cap')) := (hbd.trans (hb2.mono (by omega))).setCell (p := ⟨W2.heap.size, 0, none⟩) (by show w.heap.size ≤ W2.heap.size; omega) _
    have bv3 := bv2.set (.slice (some ⟨g', 0, none⟩) (pre.length + 1) cap')
    have hown3 := hown2.kept (grownBy_setCell' w2 W2.heap.size (.slice (some ⟨g', 0, none⟩) (pre.length + 1) cap')) (.inr (row_ne hown2 (by omega)).symm)
    refine ⟨k3.from _, trivial, ⟨⟨_, bv3, ?_, trivial⟩, ?_⟩, hB3, Nat.le_trans hN k3.size⟩
    · rw [List.length_append, List.map_append, List.map_cons, List.map_nil, ← Hr.out.1]
      exact hown3
    · exact blk_far bk2 (p := ⟨W2.heap.size, 0, none⟩) (by show w.heap.size ≠ W2.heap.size; omega) _
  case done =>
    rintro D ys W hD rfl ⟨⟨⟨v, hv, hrow, -⟩, hbk⟩, hB, hN⟩ hK
    gi_wp2
    rw [List.length_finRange] at hrow
    have hV0 : Kd.R Kd.string 9 W W0.heap.size (fun _ => True) v (endsL l1 (tx msg)) := by
      have e : encs Value.string (endsL l1 (tx msg)) = (List.finRange 18).map fun j => Value.string (endAt l1 (tx msg) j.val) := by unfold encs endsL; rw [List.map_map]; rfl
      refine Kd.R_of_own ?_ (fun _ _ => trivial)
      rw [e, endsL_len]
      exact hrow
    obtain ⟨Av, cv, rfl⟩ := Kd.R_slice hV0
    obtain ⟨_, hcv, hVC⟩ := Kd.R_reads' hV0
    have HC := Lib.hid (seal_of.calls Av cv (endsL l1 (tx msg)) _ W hVC hcv (sOf _ HH.out.2.2.2.2) (Glob.below hG hB))
    have hvc := hv.cell
    have hDl := blk_lt hK
    clear hrow hst o1 o2 o3 o4 h1o bM' BK0 HB0 bO' hV0 hVC hcv hv hr1 HO1 HO2
    generalize hX0 : Dig.lst ((endsL l1 (tx msg)).map tx) = X0 at HC
    have HX0 := Lib.hid hX0
    clear hX0
    go_wp2_with (go_at_call 63; refine HC.out.mono ?_; rintro e w3 ⟨rfl, hb3⟩; have bk3 := blk_below hbk hb3; have hgc1 : w3.cell? ⟨w.heap.size, 1, none⟩ = some (.slice A1 l1.length c1) := (blk_cell bk3 1).trans rfl; have hgc2 : w3.cell? ⟨w.heap.size, 2, none⟩ = some (.slice A2 l2.length c2) := (blk_cell bk3 2).trans rfl)
    clear hgc1 hgc2 hvc HC
    have hL0 : VerLoop idx l2 w (.cells #[.int .i64 (idx : Int), .slice A1 l1.length c1, .slice A2 l2.length c2] 35 (0, 0)) D X0 (.string (ofT X0)) (.int .i64 0) w3 :=
      ⟨0, Nat.zero_le _, rfl, rfl, bk3, blk_below hK hb3, hB.trans (hb3.mono hB.size)⟩
    go_loopw [12, 70] (fun at_ c wr => VerLoop idx l2 w (.cells #[.int .i64 (idx : Int), .slice A1 l1.length c1, .slice A2 l2.length c2] 35 (0, 0)) D X0 at_ c wr) (fun _ c _ => l2.length - (intOf c).toNat)
    case atStart => exact hL0
    case round =>
      clear hL0
      obtain ⟨k, hk, rfl, rfl, bk, gD, hBr⟩ := hrel
      have hg0 : wr.cell? ⟨w.heap.size, 0, none⟩ = some (.int .i64 (idx : Int)) := (blk_cell bk 0).trans rfl
      by_cases hlt : k < l2.length
      · obtain ⟨ad, hA, hcell⟩ := Kd.at_string (Kd.C_below hr2 hBr) (k : Int) (by omega) (by omega)
        subst hA
        rw [Int.toNat_natCast] at hcell
        unfold rdOf at hcell
        rw [Int.toNat_natCast] at hcell
        have hq1 : (k : Int) < (l2.length : Int) := by omega
        have hts := HH.out.2.2.2.1 _ (getD_mem hlt)
        have hk8 : k < 8 := by have := HH.out.2.1; omega
        obtain ⟨ot, hot⟩ : ∃ ot, ot = l2.getD k ByteArray.empty := ⟨_, rfl⟩
        rw [← hot] at hcell hts
        have HOT := Lib.hid hot
        clear hot
        have hcl : (Dig.climb X0 idx ((l2.map tx).take k)).length = 16 := climb_len (by rw [← HX0.out]; exact Dig.sum_len _) _ _
        have HN := Lib.hid (fun hG' => seal_node.calls (ofT (Dig.climb X0 idx ((l2.map tx).take k))) ot (bits .and .i64 ((idx : Int) / 2 ^ k) 1 == 1) _ wr
          (if_pos ⟨by unfold Small; rw [size_ofT, hcl]; decide, by unfold Small; omega⟩) hG')
        have HGr := Lib.hid (Glob.below hG hBr)
        clear hcl hts
        go_wp2_with (go_at_call 64; refine (HN.out HGr.out).mono ?_; rintro e w4 ⟨rfl, hb4⟩)
        clear HN HGr
        go_roundw
        case rel =>
          refine ⟨k + 1, by omega, by first | rfl | (congr 1; omega), ?_, blk_below bk hb4, blk_below gD hb4, hBr.trans (hb4.mono hBr.size)⟩
          have e1 : (l2.map tx).take (k + 1) = (l2.map tx).take k ++ [tx ot] := by
            rw [List.take_add_one, List.getElem?_map, List.getElem?_eq_getElem hlt, HOT.out, List.getD_eq_getElem?_getD, List.getElem?_eq_getElem hlt]; rfl
          have e2 : ((l2.map tx).take k).length = k := by rw [List.length_take, List.length_map]; omega
          rw [e1, Dig.climb_snoc, e2, stepB_stepT _ _ (by omega)]
          rfl
        case measure => simp [intOf]; omega
      · obtain rfl : k = l2.length := by omega
        clear hg0
        go_wp2
        have hDl' := blk_lt gD
        refine ⟨by simp, .inl ⟨_, _, rfl, run_takeDeferred gD, ?_⟩⟩
        refine ⟨_, results_tmp rfl _ _ _, ?_, hBr.trans (belowK_b (w := w) (Nat.le_refl _) wr D _ _ (by omega) gD rfl rfl)⟩
        show Ending.returned (.bool _) = _
        unfold climbB
        rw [List.take_of_length_le (by rw [List.length_map]; exact Nat.le_refl _), HX0.out]
end Go.Proofs.YteleheamnighkaaDoor
end
section
set_option linter.unusedVariables false
set_option linter.unusedSimpArgs false
namespace Go.Proofs.YteleheamnighkaaDoor
open Go.RowKit Go.Shelf Go.DoorKit Go.DoorRound Go.Proofs.YteleheamnighkaaDoorW.PrintWords Go.Proofs.YteleheamnighkaaDoorW.PrintLast Go.Proofs.YteleheamnighkaaDoorW.PrintMore
theorem isD_len {t : Dig.Txt} (h : Dig.isD t = true) : t.length = 16 := by
  unfold Dig.isD at h
  simp only [Bool.and_eq_true, beq_iff_eq, decide_eq_true_eq] at h
  exact h.1
theorem oddB_false {l : List ByteArray} (h : oddB l = false) : ∀ s ∈ l, Dig.isD (tx s) = true := by
  intro s hs
  unfold oddB at h
  have := List.any_eq_false.1 h s hs
  simpa using this
theorem oddB_size {l : List ByteArray} (h : oddB l = false) : ∀ s ∈ l, s.size = 16 := fun s hs => by
  have := isD_len (oddB_false h s hs)
  rwa [tx_len] at this
def verOk (idx : Int) (l1 l2 : List ByteArray) : Prop := l1.length = 18 ∧ l2.length ≤ 8 ∧ oddB l1 = false ∧ oddB l2 = false ∧ 0 ≤ idx ∧ idx < ((2 ^ l2.length : Nat) : Int)
instance (idx : Int) (l1 l2 : List ByteArray) : Decidable (verOk idx l1 l2) := inferInstanceAs (Decidable (l1.length = 18 ∧ l2.length ≤ 8 ∧ oddB l1 = false ∧ oddB l2 = false ∧ 0 ≤ idx ∧ idx < ((2 ^ l2.length : Nat) : Int)))
def verR (a0 msg : ByteArray) (idx : Int) (l1 l2 : List ByteArray) : Bool := if verOk idx l1 l2 then climbB a0 msg idx.toNat l1 l2 else false
def verIn (msg : ByteArray) (l1 l2 : List ByteArray) : Prop := Big msg.size ∧ (∀ s ∈ l1, Big s.size) ∧ (∀ s ∈ l2, Big s.size) ∧ l1.length ≤ 1000000 ∧ l2.length ≤ 1000000
instance (msg : ByteArray) (l1 l2 : List ByteArray) : Decidable (verIn msg l1 l2) := inferInstanceAs (Decidable (Big msg.size ∧ (∀ s ∈ l1, Big s.size) ∧ (∀ s ∈ l2, Big s.size) ∧ l1.length ≤ 1000000 ∧ l2.length ≤ 1000000))
def seal_Verify.f (a0 a1 : ByteArray) (a2_0 : Int) (l2_1 l2_2 : List ByteArray) : Option Bool := if verIn a1 l2_1 l2_2 then some (verR a0 a1 a2_0 l2_1 l2_2) else none
theorem seal_Verify.calls (a0 : ByteArray) (a1 : ByteArray) (a2_0 : Int) (A2_1 : Option Addr) (c2_1 : Nat) (l2_1 : List ByteArray) (A2_2 : Option Addr) (c2_2 : Nat) (l2_2 : List ByteArray) (r : Bool) (w : World) (hr2_1 : Kd.C Kd.string w A2_1 l2_1.length l2_1) (hc2_1 : l2_1.length ≤ c2_1) (hr2_2 : Kd.C Kd.string w A2_2 l2_2.length l2_2) (hc2_2 : l2_2.length ≤ c2_2) (h : seal_Verify.f a0 a1 a2_0 l2_1 l2_2 = some r) (hG : Glob w) :
    Calls Tryd.prog 33 #[.string a0, .string a1, .agg #[.int .i64 a2_0, .slice A2_1 l2_1.length c2_1, .slice A2_2 l2_2.length c2_2]] w fun e w' => e = .returned (.bool r) ∧ Below w.heap.size w w' := by
  obtain ⟨⟨hm, hb1, hb2, hn1, hn2⟩, hr⟩ := if_out h
  unfold verR at hr
  by_cases h1 : l2_1.length = 18
  · by_cases h2 : l2_2.length ≤ 8
    · cases ho1 : oddB l2_1 with
      | true =>
        rw [if_neg (fun k => by have := k.2.2.1; rw [ho1] at this; cases this)] at hr
        subst hr
        exact ver_bad3 a0 a1 a2_0 A2_1 A2_2 c2_1 c2_2 l2_1 l2_2 w h1 h2 (oddOf hr2_1 hc2_1 hb1 hn1 ho1)
      | false =>
        cases ho2 : oddB l2_2 with
        | true =>
          rw [if_neg (fun k => by have := k.2.2.2.1; rw [ho2] at this; cases this)] at hr
          subst hr
          exact ver_bad4 a0 a1 a2_0 A2_1 A2_2 c2_1 c2_2 l2_1 l2_2 w h1 h2 (oddOf hr2_1 hc2_1 hb1 hn1 ho1) (oddOf hr2_2 hc2_2 hb2 hn2 ho2)
        | false =>
          by_cases h5 : a2_0 < 0
          · rw [if_neg (fun k => absurd k.2.2.2.2.1 (by omega))] at hr
            subst hr
            exact ver_bad5 a0 a1 a2_0 A2_1 A2_2 c2_1 c2_2 l2_1 l2_2 w h1 h2 (oddOf hr2_1 hc2_1 hb1 hn1 ho1) (oddOf hr2_2 hc2_2 hb2 hn2 ho2) h5
          · by_cases h6 : ((2 ^ l2_2.length : Nat) : Int) ≤ a2_0
            · rw [if_neg (fun k => absurd k.2.2.2.2.2 (by omega))] at hr
              subst hr
              exact ver_bad6 a0 a1 a2_0 A2_1 A2_2 c2_1 c2_2 l2_1 l2_2 w h1 h2 (oddOf hr2_1 hc2_1 hb1 hn1 ho1) (oddOf hr2_2 hc2_2 hb2 hn2 ho2) (by omega) h6
            · obtain ⟨i, rfl⟩ := Int.eq_ofNat_of_zero_le (show 0 ≤ a2_0 by omega)
              rw [if_pos ⟨h1, h2, ho1, ho2, by omega, by omega⟩, Int.toNat_natCast] at hr
              subst hr
              exact callsIn_wide.1 (ver_in a0 a1 i A2_1 A2_2 c2_1 c2_2 l2_1 l2_2 w h1 h2 (oddOf hr2_1 hc2_1 hb1 hn1 ho1) (oddOf hr2_2 hc2_2 hb2 hn2 ho2) hr2_1 hr2_2 (oddB_size ho1) (oddB_size ho2) hc2_1 hc2_2 (by omega) hm hG)
    · rw [if_neg (fun k => absurd k.2.1 h2)] at hr
      subst hr
      exact ver_bad2 a0 a1 a2_0 A2_1 A2_2 c2_1 c2_2 l2_1 l2_2 w h1 (by omega)
  · rw [if_neg (fun k => absurd k.1 h1)] at hr
    subst hr
    exact ver_bad1 a0 a1 a2_0 A2_1 A2_2 c2_1 c2_2 l2_1 l2_2 w h1
end Go.Proofs.YteleheamnighkaaDoor
end
section
namespace Go.Proofs.YteleheamnighkaaDoor.PCe
open Go.RowKit Go.Proofs.YteleheamnighkaaDoorW.PrintWords Go.Proofs.YteleheamnighkaaDoorW.PrintLast Go.Proofs.YteleheamnighkaaDoorW.PrintMore
attribute [local go_sem] max2_int min2_int max_two min_two max_three min_three max_four min_four   -- for this text's walks alone
set_option linter.unusedVariables false
set_option linter.unusedSimpArgs false
def errW : Option Int → Value
  | none => .nilIface
  | some c => .iface 0 (.int .i64 c)
theorem errW_none : errW none = .nilIface := rfl
theorem errW_some (c : Int) : errW (some c) = .iface 0 (.int .i64 c) := rfl
theorem info9 : (Tryd.prog.info? 9).map (fun i => (i.zero, i.size, i.bytes)) = some (some (.string ⟨#[]⟩), 1, 16) := by kernel_rfl
end Go.Proofs.YteleheamnighkaaDoor.PCe
end
section
set_option linter.unusedVariables false
set_option linter.unusedSimpArgs false
namespace Go.Proofs.YteleheamnighkaaDoor
open Go.RowKit Go.DoorKit Go.Proofs.YteleheamnighkaaDoorW.PrintWords
theorem rPower (n : Nat) (h : n ≤ 62) : planisphereref02_Power.f (n : Int) = some ((2 ^ n : Nat) : Int) := by
  unfold planisphereref02_Power.f; rw [if_pos ⟨by omega, by omega⟩, Int.toNat_natCast]
theorem pow_two_succ (d : Nat) : 2 ^ (d + 1) = 2 * 2 ^ d := by rw [Nat.pow_succ, Nat.mul_comm]
theorem tmod2 (x : Nat) : Int.tmod (x : Int) 2 = ((x % 2 : Nat) : Int) := by
  rw [show (2 : Int) = ((2 : Nat) : Int) from rfl, BaseFacts.tmod_nat]
theorem tdiv2 (x : Nat) (h : x ≤ 4000) : wrap64 (Int.tdiv (x : Int) 2) = ((x / 2 : Nat) : Int) := by
  have : Int.tdiv (x : Int) 2 = ((x / 2 : Nat) : Int) := by
    rw [show (2 : Int) = ((2 : Nat) : Int) from rfl]; exact (Int.ofNat_tdiv x 2).symm
  rw [this]; unfold wrap64; omega
theorem pathL_succ (s : Dig.Txt) (i j : Nat) : pathL s i (j + 1) = pathL s i j ++ [ofT (Dig.tree s j (Dig.sib (i / 2 ^ j)))] := by
  unfold pathL; rw [List.range_succ, List.map_append]; rfl
theorem finMap {α : Type} (f : Nat → α) : (List.finRange 18).map (fun j => f j.val) = (List.range 18).map f := by
  have : (List.finRange 18).map Fin.val = List.range 18 := by decide
  rw [← this, List.map_map]; rfl
def sigTo (s : Dig.Txt) (i : Nat) (m : Dig.Txt) (j : Nat) : List ByteArray := (List.range j).map (sigAt s i m)
theorem sigTo_all (s : Dig.Txt) (i : Nat) (m : Dig.Txt) : sigTo s i m 18 = sigL s i m := (finMap (sigAt s i m)).symm
theorem rd_digits (m : Dig.Txt) (j : Nat) (h : j < 18) : rd (ints (Dig.digits m)) (j : Int) = ((dAt m j : Nat) : Int) := by
  have hl := digits_len m
  unfold rd dAt ints
  rw [Int.toNat_natCast]
  generalize Dig.digits m = L at *
  simp only [List.getD_eq_getElem?_getD, List.getElem?_map]
  rw [List.getElem?_eq_getElem (by omega)]; rfl
end Go.Proofs.YteleheamnighkaaDoor
end
section
set_option linter.unusedVariables false
set_option linter.unusedSimpArgs false
namespace Go.Proofs.YteleheamnighkaaDoor
open Go.RowKit Go.DoorKit Go.Proofs.YteleheamnighkaaDoorW.PrintWords
def endsTo (l : List ByteArray) (m : Dig.Txt) (j : Nat) : List ByteArray := (List.range j).map (endAt l m)
theorem endsTo_len (l : List ByteArray) (m : Dig.Txt) (j : Nat) : (endsTo l m j).length = j := by simp [endsTo]
theorem endsTo_succ (l : List ByteArray) (m : Dig.Txt) (j : Nat) : endsTo l m (j + 1) = endsTo l m j ++ [endAt l m j] := by
  unfold endsTo; rw [List.range_succ, List.map_append]; rfl
theorem endsTo_all (l : List ByteArray) (m : Dig.Txt) : endsTo l m 18 = endsL l m := (finMap (endAt l m)).symm
theorem wrap_sub15 (d : Nat) (h : d ≤ 15) : wrap64 (15 - (d : Int)) = ((15 - d : Nat) : Int) := by unfold wrap64; omega
theorem drop_one {l : List ByteArray} {i : Nat} (h : i < l.length) : l.drop i = l.getD i ByteArray.empty :: l.drop (i + 1) := by
  rw [List.drop_eq_getElem_cons h, List.getD_eq_getElem?_getD, List.getElem?_eq_getElem h, Option.getD_some]
end Go.Proofs.YteleheamnighkaaDoor
end
section
namespace Go.Proofs.YteleheamnighkaaDoor.PCd
open Go.RowKit Go.Proofs.YteleheamnighkaaDoorW.PrintWords Go.Proofs.YteleheamnighkaaDoorW.PrintLast Go.Proofs.YteleheamnighkaaDoorW.PrintMore
attribute [local go_sem] max2_int min2_int max_two min_two max_three min_three max_four min_four   -- for this text's walks alone
set_option linter.unusedVariables false
set_option linter.unusedSimpArgs false
def errW : Option Int → Value
  | none => .nilIface
  | some c => .iface 0 (.int .i64 c)
theorem errW_none : errW none = .nilIface := rfl
theorem errW_some (c : Int) : errW (some c) = .iface 0 (.int .i64 c) := rfl
theorem info9 : (Tryd.prog.info? 9).map (fun i => (i.zero, i.size, i.bytes)) = some (some (.string ⟨#[]⟩), 1, 16) := by kernel_rfl
end Go.Proofs.YteleheamnighkaaDoor.PCd
end
