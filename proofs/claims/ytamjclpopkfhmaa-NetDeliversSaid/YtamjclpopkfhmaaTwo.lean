/-
What a law knows of two networks and of blocks of its own; operations one after the other.
-/
import Derived.Test.YtamjclpopkfhmaaSame
set_option linter.unusedVariables false
set_option linter.unusedSimpArgs false
namespace Go.Proofs.Ytamjclpopkfhmaa
open Go.RowKit Go.NetKit

/-- Since w0 nothing old has turned; p and q are networks of what is new, apart; the blocks of Kp hold what Kp says. -/
def Two2 (w0 w : World) (p q : Option Addr) (N M : NetS) (Kp : List (Nat × Obj)) : Prop :=
  ∃ S T, NetP w p S N ∧ NetP w q T M ∧ (∀ k, S k → ¬ T k) ∧ (∀ k, S k → w0.heap.size ≤ k) ∧ (∀ k, T k → w0.heap.size ≤ k) ∧ Fr (fun _ => False) w0 w ∧ ∀ e ∈ Kp, bk w e.1 = some e.2 ∧ ¬ S e.1 ∧ ¬ T e.1
theorem Two2.symm {w0 w : World} {p q : Option Addr} {N M : NetS} {Kp : List (Nat × Obj)} (h : Two2 w0 w p q N M Kp) : Two2 w0 w q p M N Kp := by
  obtain ⟨S, T, h1, h2, h3, h4, h5, h6, h7⟩ := h
  exact ⟨T, S, h2, h1, fun k a b => h3 k b a, h5, h4, h6, fun e he => ⟨(h7 e he).1, (h7 e he).2.2, (h7 e he).2.1⟩⟩
theorem Two2.fr {w0 w : World} {p q : Option Addr} {N M : NetS} {Kp : List (Nat × Obj)} (h : Two2 w0 w p q N M Kp) : Fr (fun _ => False) w0 w := by
  obtain ⟨S, T, h1, h2, h3, h4, h5, h6, h7⟩ := h; exact h6
theorem Two2.kept {w0 w : World} {p q : Option Addr} {N M : NetS} {Kp : List (Nat × Obj)} (h : Two2 w0 w p q N M Kp) {k : Nat} {o : Obj} (he : (k, o) ∈ Kp) : bk w k = some o := by
  obtain ⟨S, T, h1, h2, h3, h4, h5, h6, h7⟩ := h; exact (h7 _ he).1
theorem Two.two2 {w0 w : World} {p q : Option Addr} {N M : NetS} (h : Two w0 w p q N M) : Two2 w0 w p q N M [] := by
  obtain ⟨S, T, h1, h2, h3, h4, h5, h6⟩ := h
  exact ⟨S, T, h1, h2, h3, h4, h5, h6, fun e he => by cases he⟩
theorem Two2.less {w0 w : World} {p q : Option Addr} {N M : NetS} {Kp Kp' : List (Nat × Obj)} (h : Two2 w0 w p q N M Kp) (hk : ∀ e ∈ Kp', e ∈ Kp) : Two2 w0 w p q N M Kp' := by
  obtain ⟨S, T, h1, h2, h3, h4, h5, h6, h7⟩ := h
  exact ⟨S, T, h1, h2, h3, h4, h5, h6, fun e he => h7 e (hk e he)⟩
/-- What is made or drawn beside. -/
theorem Two2.beside {w0 w w' : World} {p q : Option Addr} {N M : NetS} {Kp : List (Nat × Obj)} (h : Two2 w0 w p q N M Kp) (hf : Fr (fun _ => False) w w') : Two2 w0 w' p q N M Kp := by
  obtain ⟨S, T, h1, h2, h3, h4, h5, h6, h7⟩ := h
  exact ⟨S, T, h1.fr hf (fun _ _ h => h), h2.fr hf (fun _ _ h => h), h3, h4, h5, h6.trans hf, fun e he => ⟨hf.bk (h7 e he).1 (fun h => h), (h7 e he).2⟩⟩
/-- A new block, kept. -/
theorem Two2.keep {w0 w : World} {p q : Option Addr} {N M : NetS} {Kp : List (Nat × Obj)} (h : Two2 w0 w p q N M Kp) (o : Obj) : Two2 w0 (w.alloc o) p q N M ((w.heap.size, o) :: Kp) := by
  obtain ⟨S, T, h1, h2, h3, h4, h5, h6, h7⟩ := h
  have hf : Fr (fun _ => False) w (w.alloc o) := (Fr.refl _ w).alloc _
  refine ⟨S, T, h1.fr hf (fun _ _ h => h), h2.fr hf (fun _ _ h => h), h3, h4, h5, h6.trans hf, fun e he => ?_⟩
  rcases List.mem_cons.1 he with rfl | he
  · exact ⟨bk_alloc_new, fun hs => by have := h1.lt _ hs; simp at this, fun hs => by have := h2.lt _ hs; simp at this⟩
  · exact ⟨hf.bk (h7 e he).1 (fun h => h), (h7 e he).2⟩
/-- An operation's contract, with what the law knows. -/
theorem Two2.step {w0 w : World} {p q : Option Addr} {N M : NetS} {Kp : List (Nat × Obj)} (h : Two2 w0 w p q N M Kp) {f : FuncId} {args : Array Value} {v : Value} {N' : NetS}
    (hc : ∀ S, NetP w p S N → Calls Try.prog f args w fun e w' => e = .returned v ∧ NetToP w w' p S N') :
    Calls Try.prog f args w fun e w' => e = .returned v ∧ Two2 w0 w' p q N' M Kp := by
  obtain ⟨S, T, h1, h2, h3, h4, h5, h6, h7⟩ := h
  refine (hc S h1).mono ?_
  rintro e w' ⟨rfl, S', g1, g2, g3⟩
  refine ⟨rfl, S', T, g1, h2.fr g2 (fun k hk hs => h3 k hs hk), ?_, ?_, h5, h6.trans' g2 ?_, ?_⟩
  · intro k hk ht
    rcases g3 k hk with h | h
    · exact h3 k h ht
    · have := h2.lt k ht; omega
  · intro k hk
    rcases g3 k hk with h | h
    · exact h4 k h
    · have := h6.size; omega
  · intro k hk hs
    have := h4 k hs; omega
  · intro e he
    refine ⟨g2.bk (h7 e he).1 (h7 e he).2.1, fun hs => ?_, (h7 e he).2.2⟩
    rcases g3 _ hs with h | h
    · exact (h7 e he).2.1 h
    · have := bk_lt (h7 e he).1; omega
theorem Two2.step' {w0 w : World} {p q : Option Addr} {N M : NetS} {Kp : List (Nat × Obj)} (h : Two2 w0 w p q N M Kp) {f : FuncId} {args : Array Value} {v : Value} {M' : NetS}
    (hc : ∀ S, NetP w q S M → Calls Try.prog f args w fun e w' => e = .returned v ∧ NetToP w w' q S M') :
    Calls Try.prog f args w fun e w' => e = .returned v ∧ Two2 w0 w' p q N M' Kp :=
  (h.symm.step hc).mono fun _ _ hh => ⟨hh.1, hh.2.symm⟩

theorem take_more' {α : Type} (l : List α) (k : Nat) (hk : k < l.length) : l.take (k + 1) = l.take k ++ [l[k]] := by
  rw [List.take_succ_eq_append_getElem hk]
/-- Operations, one after the other. -/
def runs (N : NetS) (ops : List OpS) : NetS := ops.foldl (fun N o => (o.three.run N).1) N
theorem runs_take (N : NetS) (ops : List OpS) (k : Nat) (hk : k < ops.length) : runs N (ops.take (k + 1)) = ((opAt ops k).three.run (runs N (ops.take k))).1 := by
  have e : opAt ops k = ops[k] := by simp [opAt, hk]
  unfold runs
  rw [take_more' ops k hk, List.foldl_append, e]; rfl
theorem run_nodes (N : NetS) (o : OpS) : (o.run N).1.nodes = N.nodes := by
  unfold OpS.run NetS.send NetS.deliver NetS.lose NetS.spoil NetS.cutS NetS.drop NetS.setq NetS.setc
  repeat' split
  all_goals rfl
theorem runs_nodes (ops : List OpS) : ∀ N : NetS, (runs N ops).nodes = N.nodes := by
  induction ops with
  | nil => intro N; rfl
  | cons o l ih => intro N; show (runs (o.three.run N).1 l).nodes = _; rw [ih, run_nodes]
theorem three_ok (N : NetS) (hn : N.nodes = 3) (o : OpS) : N.ok o.three.a o.three.b = true := by
  unfold NetS.ok OpS.three
  exact decide_eq_true ⟨by simp only; omega, by simp only; omega, by simp only [hn]; omega, by simp only [hn]; omega, by simp only; omega⟩
theorem three_ok' (N : NetS) (hn : N.nodes = 3) (o : OpS) : N.ok o.three.b o.three.a = true := by
  unfold NetS.ok OpS.three
  exact decide_eq_true ⟨by simp only; omega, by simp only; omega, by simp only [hn]; omega, by simp only [hn]; omega, by simp only; omega⟩

/-- The cells of one operation that is read, and where they lie. -/
theorem OpsAt.cells {B : Nat} {w : World} {A : Option Addr} {ops : List OpS} (h : OpsAt B w A ops) (k : Nat) (hk : k < ops.length) :
    ∃ b off, A = some ⟨b, off, none⟩ ∧ b < B ∧ w.cell? ⟨b, off + k * 8, none⟩ = some (.int .i64 (opAt ops k).kind) ∧ w.cell? ⟨b, off + k * 8 + 1, none⟩ = some (.int .i64 (opAt ops k).a) ∧ w.cell? ⟨b, off + k * 8 + 2, none⟩ = some (.int .i64 (opAt ops k).b) ∧
      w.cell? ⟨b, off + k * 8 + 3, none⟩ = some (.int .i64 (opAt ops k).idx) ∧ w.cell? ⟨b, off + k * 8 + 4, none⟩ = some (.int .i64 (opAt ops k).at_) ∧ w.cell? ⟨b, off + k * 8 + 5, none⟩ = some (.int .i64 (opAt ops k).mask) ∧
      w.cell? ⟨b, off + k * 8 + 6, none⟩ = some (.string (opAt ops k).text) ∧ w.cell? ⟨b, off + k * 8 + 7, none⟩ = some (.bool (opAt ops k).flag) := by
  obtain ⟨b, off, e, hb, hc⟩ := h.2 (by omega)
  exact ⟨b, off, e, hb, hc k hk 0 _ rfl, hc k hk 1 _ rfl, hc k hk 2 _ rfl, hc k hk 3 _ rfl, hc k hk 4 _ rfl, hc k hk 5 _ rfl, hc k hk 6 _ rfl, hc k hk 7 _ rfl⟩
end Go.Proofs.Ytamjclpopkfhmaa
