/-
NetDelivers: the law's own map of queues beside the network.
-/
import Derived.Test.YtamjclpopkfhmaaRefuses2
set_option linter.unusedVariables false
set_option linter.unusedSimpArgs false
namespace Go.Proofs.Ytamjclpopkfhmaa
open Go.RowKit Go.NetKit

theorem Try.zero46 : ((Try.prog.info? 46).bind (·.zero)) = some (.slice none 0 0) := by kernel_rfl
theorem lookup43 (mq : Nat) (E : List Ent) (ck : Nat) (f t : Int) (W : World) (h : bk W mq = some (.map (ents E) ck)) :
    (Instr.lookup 43 (.map (some mq)) (.agg #[.int .i64 f, .int .i64 t]) false).run Try.prog W = .ok ((lk f t E).getD (.slice none 0 0)) W := by
  obtain ⟨i, hi⟩ := Option.isSome_iff_exists.1 Try.info3
  obtain ⟨z, hz, hz0⟩ := bind_some' Try.zero46
  exact run_lookup2 W Try.underlying43 Try.underlying45 Try.underlying3 hi Try.cells3 hz hz0 mq ck E h f t
theorem update43 (mq : Nat) (E : List Ent) (ck : Nat) (f t : Int) (v : Value) (W : World) (h : bk W mq = some (.map (ents E) ck)) :
    (Instr.mapUpdate 43 (.map (some mq)) (.agg #[.int .i64 f, .int .i64 t]) v).run Try.prog W = .ok () (setBk W mq (.map (ents (put f t v ck E)) (if (lk f t E).isSome then ck else ck + 1))) := by
  obtain ⟨i, hi⟩ := Option.isSome_iff_exists.1 Try.info3
  exact run_update2 W Try.underlying43 Try.underlying45 Try.underlying3 hi Try.cells3 mq ck E h f t v

/-- Queues with one of them another. -/
def upd (Q : Int → Int → List ByteArray) (a b : Int) (l : List ByteArray) : Int → Int → List ByteArray := fun x y => if x = a ∧ y = b then l else Q x y

/-- The network, and the law's map mb of the queues Q. -/
structure Del (w0 wr : World) (p : Option Addr) (N : NetS) (mb : Nat) (Q : Int → Int → List ByteArray) (S : Nat → Prop) (E : List Ent) (ck : Nat) (lab : Nat → Option (Int × Int)) : Prop where
  net : NetP wr p S N
  sn : ∀ k, S k → w0.heap.size ≤ k
  fr : Fr (fun _ => False) w0 wr
  hm : bk wr mb = some (.map (ents E) ck)
  mn : w0.heap.size ≤ mb
  ms : ¬ S mb
  rows : ∀ a b v, lk a b E = some v → wr.ownsRow 0 9 1 v (Q a b).length ((Q a b).map .string) ∧ ∀ k, v.ownBlock = some k → lab k = some (a, b)
  emp : ∀ a b, lk a b E = none → Q a b = []
  lm : lab mb = none
  ln : ∀ k, (lab k).isSome = true → w0.heap.size ≤ k ∧ ¬ S k ∧ k < wr.heap.size

section
variable {w0 wr : World} {p : Option Addr} {N : NetS} {mb : Nat} {Q : Int → Int → List ByteArray} {S : Nat → Prop} {E : List Ent} {ck : Nat} {lab : Nat → Option (Int × Int)}
theorem Del.beside {w2 : World} (h : Del w0 wr p N mb Q S E ck lab) (hf : Fr (fun _ => False) wr w2) : Del w0 w2 p N mb Q S E ck lab :=
  ⟨h.net.fr hf (fun _ _ h => h), h.sn, h.fr.trans hf, hf.bk h.hm (fun h => h), h.mn, h.ms, fun a b v hv => ⟨ownsRow_fr (h.rows a b v hv).1 hf (fun _ _ h => h), (h.rows a b v hv).2⟩, h.emp, h.lm,
    fun k hk => ⟨(h.ln k hk).1, (h.ln k hk).2.1, Nat.lt_of_lt_of_le (h.ln k hk).2.2 hf.size⟩⟩
theorem Del.op (h : Del w0 wr p N mb Q S E ck lab) {f : FuncId} {args : Array Value} {v : Value} {N' : NetS}
    (hc : ∀ S, NetP wr p S N → Calls Try.prog f args wr fun e w' => e = .returned v ∧ NetToP wr w' p S N') :
    Calls Try.prog f args wr fun e w' => e = .returned v ∧ ∃ S', Del w0 w' p N' mb Q S' E ck lab ∧ ∀ k o, bk wr k = some o → ¬ S k → bk w' k = some o := by
  refine (hc S h.net).mono ?_
  rintro e w' ⟨rfl, S', g1, g2, g3⟩
  refine ⟨rfl, S', ⟨g1, ?_, h.fr.trans' g2 ?_, g2.bk h.hm h.ms, h.mn, ?_, ?_, h.emp, h.lm, ?_⟩, fun k o hk hn => g2.bk hk hn⟩
  · intro k hk
    rcases g3 k hk with h1 | h1
    · exact h.sn k h1
    · have := h.fr.size; omega
  · intro k hk hs
    have := h.sn k hs; omega
  · intro hs
    rcases g3 mb hs with h1 | h1
    · exact h.ms h1
    · have := bk_lt h.hm; omega
  · intro a b v hv
    obtain ⟨r1, r2⟩ := h.rows a b v hv
    exact ⟨ownsRow_fr r1 g2 (fun k hk => (h.ln k (by rw [r2 k hk]; rfl)).2.1), r2⟩
  · intro k hk
    obtain ⟨l1, l2, l3⟩ := h.ln k hk
    refine ⟨l1, fun hs => ?_, Nat.lt_of_lt_of_le l3 g2.size⟩
    rcases g3 k hs with h1 | h1
    · exact l2 h1
    · omega

/-- What the law reads of a queue. -/
theorem Del.read (h : Del w0 wr p N mb Q S E ck lab) (a b : Int) : ∃ A c, (lk a b E).getD (.slice none 0 0) = .slice A (Q a b).length c ∧
    wr.ownsRow 0 9 1 (.slice A (Q a b).length c) (Q a b).length ((Q a b).map .string) ∧ ∀ k, (Value.slice A (Q a b).length c).ownBlock = some k → lab k = some (a, b) := by
  cases hl : lk a b E with
  | none =>
    have h0 := h.emp a b hl
    rw [h0]
    refine ⟨none, 0, rfl, World.ownsRow_nil _ _ _ _, fun k hk => by cases hk⟩
  | some v =>
    obtain ⟨r1, r2⟩ := h.rows a b v hl
    rcases r1.2 with ⟨rfl, h0⟩ | ⟨g, cap, cur, rfl, r⟩
    · refine ⟨none, 0, ?_, ?_, r2⟩
      · rw [h0]; rfl
      · rw [h0] at r1 ⊢; exact r1
    · exact ⟨_, cap, rfl, r1, r2⟩

/-- The law stores a queue. -/
theorem Del.put {w2 : World} (h : Del w0 wr p N mb Q S E ck lab) (a b : Int) (v v' : Value) (hv : ∀ k, v.ownBlock = some k → lab k = some (a, b)) (l : List ByteArray)
    (hf : Fr (fun k => v.ownBlock = some k) wr w2) (hown : w2.ownsRow 0 9 1 v' l.length (l.map .string)) (hnew : ∀ k, v'.ownBlock = some k → v.ownBlock = some k ∨ wr.heap.size ≤ k) :
    ∃ lab', Del w0 (setBk w2 mb (.map (ents (NetKit.put a b v' ck E)) (if (lk a b E).isSome then ck else ck + 1))) p N mb (upd Q a b l) S (NetKit.put a b v' ck E) (if (lk a b E).isSome then ck else ck + 1) lab' := by
  have hmb := bk_lt h.hm
  have vmb : ¬ v.ownBlock = some mb := fun e => by have := hv mb e; rw [h.lm] at this; cases this
  have v'mb : ¬ v'.ownBlock = some mb := fun e => by
    rcases hnew mb e with h1 | h1
    · exact vmb h1
    · omega
  have hlt : ∀ k, v'.ownBlock = some k → k < w2.heap.size := by
    intro k hk
    rcases hown.2 with ⟨h0, _⟩ | ⟨g, cap, cur, h1, _, hh, _⟩
    · rw [h0] at hk; cases hk
    · rw [h1] at hk; injection hk with hk; subst hk; exact bk_lt (n := g) hh
  have f2 : Fr (fun k => k = mb) w2 (setBk w2 mb (.map (ents (NetKit.put a b v' ck E)) (if (lk a b E).isSome then ck else ck + 1))) := (Fr.refl (fun k => k = mb) w2).setBk (r := mb) (fun _ => rfl) _
  have f3 : Fr (fun k => v.ownBlock = some k ∨ k = mb) wr (setBk w2 mb (.map (ents (NetKit.put a b v' ck E)) (if (lk a b E).isSome then ck else ck + 1))) :=
    (hf.weaken (fun k _ hk => .inl hk)).trans' f2 (fun k _ hk => .inr hk)
  have hbv : ∀ k, v.ownBlock = some k → w0.heap.size ≤ k ∧ ¬ S k ∧ k < wr.heap.size := fun k hk => h.ln k (by rw [hv k hk]; rfl)
  refine ⟨fun k => if v'.ownBlock = some k then some (a, b) else lab k, ⟨h.net.fr f3 ?_, h.sn, h.fr.trans' f3 ?_, bk_setBk (Nat.lt_of_lt_of_le hmb hf.size), h.mn, h.ms, ?_, ?_, ?_, ?_⟩⟩
  · rintro k hk (h1 | rfl)
    · exact (hbv k h1).2.1 hk
    · exact h.ms hk
  · rintro k hk (h1 | rfl)
    · have := (hbv k h1).1; omega
    · have := h.mn; omega
  · intro x y u hu
    rw [lk_put] at hu
    by_cases hxy : x = a ∧ y = b
    · rw [if_pos hxy] at hu
      injection hu with hu
      subst hu
      have e : upd Q a b l x y = l := by simp [upd, hxy]
      rw [e]
      refine ⟨ownsRow_fr hown f2 (fun k hk e => v'mb (by rw [← e]; exact hk)), fun k hk => ?_⟩
      rw [if_pos hk, hxy.1, hxy.2]
    · rw [if_neg hxy] at hu
      have e : upd Q a b l x y = Q x y := by simp only [upd]; rw [if_neg hxy]
      rw [e]
      obtain ⟨r1, r2⟩ := h.rows x y u hu
      refine ⟨ownsRow_fr r1 f3 ?_, fun k hk => ?_⟩
      · rintro k hk (h1 | rfl)
        · have q1 := hv k h1
          have q2 := r2 k hk
          rw [q1] at q2
          injection q2 with q2; injection q2 with q2 q3
          exact hxy ⟨q2.symm, q3.symm⟩
        · have := r2 k hk; rw [h.lm] at this; cases this
      · rw [if_neg ?_]
        · exact r2 k hk
        · intro h1
          rcases hnew k h1 with h2 | h2
          · have q1 := hv k h2
            have q2 := r2 k hk
            rw [q1] at q2
            injection q2 with q2; injection q2 with q2 q3
            exact hxy ⟨q2.symm, q3.symm⟩
          · have := (h.ln k (by rw [r2 k hk]; rfl)).2.2; omega
  · intro x y hn
    rw [lk_put] at hn
    by_cases hxy : x = a ∧ y = b
    · rw [if_pos hxy] at hn; cases hn
    · rw [if_neg hxy] at hn
      simp only [upd]; rw [if_neg hxy]; exact h.emp x y hn
  · rw [if_neg v'mb]; exact h.lm
  · intro k hk
    rw [size_setBk]
    by_cases h1 : v'.ownBlock = some k
    · rcases hnew k h1 with h2 | h2
      · exact ⟨(hbv k h2).1, (hbv k h2).2.1, Nat.lt_of_lt_of_le (hbv k h2).2.2 hf.size⟩
      · refine ⟨by have := h.fr.size; omega, fun hs => by have := h.net.lt k hs; omega, hlt k h1⟩
    · rw [if_neg h1] at hk
      obtain ⟨l1, l2, l3⟩ := h.ln k hk
      exact ⟨l1, l2, Nat.lt_of_lt_of_le l3 hf.size⟩
end

/-- append of texts to an own row of texts. -/
theorem push_texts (W : World) (v : Value) (n : Nat) (xs : List Value) (hown : W.ownsRow 0 9 1 v n xs) (a : Addr) (m c : Nat) (news : List Value) (hl : news.length = m) (hn : ∀ j u, news[j]? = some u → W.cell? (a.add j) = some u) (h1 : ∀ u ∈ news, u.oneCell' = true) (hnm : n + m ≤ 100000) :
    ∃ v' W', (∀ ty, (Builtin.append_ #[46, 46] ty #[v, .slice (some a) m c]).run Try.prog W = .ok v' W') ∧ W'.ownsRow 0 9 1 v' (n + m) (xs ++ news) ∧ Fr (fun k => v.ownBlock = some k) W W' ∧ ∀ k, v'.ownBlock = some k → v.ownBlock = some k ∨ k = W.heap.size := by
  obtain ⟨i, hi, hzz⟩ := Option.map_eq_some_iff.1 Try.info9
  simp only [Prod.mk.injEq] at hzz
  obtain ⟨hz0, hz1, hz2⟩ := hzz
  obtain ⟨v', w', hr, h2, h3, h4, h5⟩ := run_append_own_at (P := Try.prog) W 0 46 0 9 i (.string ByteArray.empty) 1 16 Try.underlying46 hi hz0 hz1 hz2 rfl (by omega) v n xs hown a m c news (by omega) hn h1 (by simp only [maxLen]; omega) (by omega) (Nat.zero_le _)
  refine ⟨v', w', fun ty => by unfold Builtin.append_ at hr ⊢; exact hr, h2, (Fr.of_grown h3).weaken (fun k _ hk => hk.symm), fun k hk => ?_⟩
  rcases h5 with h5 | h5
  · exact .inl (h5.symm.trans hk)
  · rw [h5] at hk; injection hk with hk; exact .inr hk.symm

theorem ownsRow_form0 {w : World} {b e n : Nat} {v : Value} {xs : List Value} (h : w.ownsRow b e 1 v n xs) : ∃ A c, v = .slice A n c := by
  rcases h.2 with ⟨rfl, rfl⟩ | ⟨g, cap, cur, rfl, _⟩
  · exact ⟨none, 0, rfl⟩
  · exact ⟨_, cap, rfl⟩
/-- append(append([]string{}, q[:i]...), q[i+1:]...). -/
theorem cut_texts {w5 : World} (key : Obj) (q : List ByteArray) (g c' i : Nat) (hown : w5.ownsRow 0 9 1 (.slice (some ⟨g, 0, none⟩) q.length c') q.length (q.map .string)) (hi : i < q.length) (hq : q.length ≤ 100) (a2 : Addr) (ha2 : q.length - (i + 1) = 0 ∨ a2 = ⟨g, i + 1, none⟩) :
    ∃ A1 c1 w7 A8 c8 w8, (∀ ty, (Builtin.append_ #[46, 46] ty #[.slice (some ⟨w5.heap.size + 1, 0, none⟩) 0 0, .slice (some ⟨g, 0, none⟩) i c']).run Try.prog ((w5.alloc key).alloc (.cells #[] 9)).drew = .ok (.slice A1 i c1) w7) ∧
      (∀ ty, (Builtin.append_ #[46, 46] ty #[.slice A1 i c1, .slice (some a2) (q.length - (i + 1)) (c' - (i + 1))]).run Try.prog w7 = .ok (.slice A8 (q.length - 1) c8) w8) ∧
      w8.ownsRow 0 9 1 (.slice A8 (q.length - 1) c8) (q.eraseIdx i).length ((q.eraseIdx i).map .string) ∧ Fr (fun _ => False) (w5.alloc key) w7 ∧ Fr (fun _ => False) (w5.alloc key) w8 ∧ (∀ k, (Value.slice A8 (q.length - 1) c8).ownBlock = some k → w5.heap.size ≤ k) := by
  obtain ⟨_, b, e, hc⟩ := own_cell hown (by omega)
  injection e with e; injection e with e
  subst e
  have hc' : ∀ k, k < q.length → w5.cell? ⟨g, k, none⟩ = some (.string (q.getD k ByteArray.empty)) := by
    intro k hk
    rw [hc k hk]; simp [List.getD_eq_getElem?_getD, hk]
  have hbk : bk (((w5.alloc key).alloc (.cells #[] 9)).drew) (w5.heap.size + 1) = some (.cells #[] 9) := by
    have := bk_alloc_new (w := w5.alloc key) (o := .cells #[] 9)
    rw [World.size_alloc] at this; exact this
  have hfW : Fr (fun _ => False) w5 (((w5.alloc key).alloc (.cells #[] 9)).drew) := (((Fr.refl _ w5).alloc _).alloc _).drew
  have cellF : ∀ {W : World}, Fr (fun _ => False) w5 W → ∀ k, k < q.length → W.cell? ⟨g, k, none⟩ = some (.string (q.getD k ByteArray.empty)) := by
    intro W hf k hk
    have h1 := hc' k hk
    have hlt := World.block_lt_of_cell? w5 _ h1
    exact (World.cell?_of_block (w := w5) (w' := W) (a := ⟨g, k, none⟩) (hf.block g hlt (fun h => h))).trans h1
  obtain ⟨v1, w7, r1, o1, f1, n1⟩ := push_texts (((w5.alloc key).alloc (.cells #[] 9)).drew) (.slice (some ⟨w5.heap.size + 1, 0, none⟩) 0 0) 0 [] ⟨rfl, .inr ⟨w5.heap.size + 1, 0, #[], rfl, Nat.zero_le _, hbk, Nat.le_refl _, Nat.zero_le _, rfl, rfl⟩⟩
    ⟨g, 0, none⟩ i c' ((q.take i).map .string) (by simp; omega) (fun j u hu => by
      rw [List.getElem?_map, List.getElem?_take] at hu
      split at hu
      · rename_i hj
        rw [List.getElem?_eq_getElem (by omega)] at hu
        simp only [Option.map_some, Option.some.injEq] at hu
        have := cellF hfW j (by omega)
        rw [show (⟨g, 0, none⟩ : Addr).add j = ⟨g, j, none⟩ from by unfold Addr.add; split <;> simp_all]
        rw [this, ← hu]; simp [List.getD_eq_getElem?_getD, show j < q.length by omega]
      · cases hu) (fun u hu => by obtain ⟨x, _, rfl⟩ := List.mem_map.1 hu; rfl) (by omega)
  rw [Nat.zero_add] at o1
  obtain ⟨A1, c1, rfl⟩ := ownsRow_form0 o1
  have hX1 : ∀ k, (Value.slice (some ⟨w5.heap.size + 1, 0, none⟩) 0 0).ownBlock = some k → k = w5.heap.size + 1 := fun k hk => by injection hk with hk; exact hk.symm
  have hf7 : Fr (fun _ => False) (w5.alloc key) w7 := ((((Fr.refl _ (w5.alloc key)).alloc (.cells #[] 9)).drew).trans' f1 (fun k hk e => by have := hX1 k e; simp at hk; omega))
  have hf57 : Fr (fun _ => False) w5 w7 := ((Fr.refl _ w5).alloc key).trans hf7
  have hb1 : ∀ k, (Value.slice A1 i c1).ownBlock = some k → w5.heap.size + 1 ≤ k := fun k hk => by
    rcases n1 k hk with h | h
    · have := hX1 k h; omega
    · rw [h]; show w5.heap.size + 1 ≤ ((w5.alloc _).alloc _).heap.size; simp
  obtain ⟨v8, w8, r8, o8, f8, n8⟩ := push_texts w7 (.slice A1 i c1) i _ o1 a2 (q.length - (i + 1)) (c' - (i + 1)) ((q.drop (i + 1)).map .string) (by simp) (fun j u hu => by
      rw [List.getElem?_map, List.getElem?_drop] at hu
      have hj : i + 1 + j < q.length := by
        rcases Nat.lt_or_ge (i + 1 + j) q.length with h | h
        · exact h
        · rw [List.getElem?_eq_none h] at hu; cases hu
      rcases ha2 with h0 | rfl
      · omega
      · rw [List.getElem?_eq_getElem hj] at hu
        simp only [Option.map_some, Option.some.injEq] at hu
        have := cellF hf57 (i + 1 + j) hj
        rw [show (⟨g, i + 1, none⟩ : Addr).add j = ⟨g, i + 1 + j, none⟩ from by unfold Addr.add; split <;> simp_all]
        rw [this, ← hu]; simp [List.getD_eq_getElem?_getD, hj]) (fun u hu => by obtain ⟨x, _, rfl⟩ := List.mem_map.1 hu; rfl) (by omega)
  rw [show i + (q.length - (i + 1)) = q.length - 1 from by omega] at o8
  obtain ⟨A8, c8, rfl⟩ := ownsRow_form0 o8
  refine ⟨A1, c1, w7, A8, c8, w8, r1, r8, ?_, hf7, hf7.trans' f8 (fun k hk e => by have := hb1 k e; simp at hk; omega), fun k hk => ?_⟩
  · rw [List.length_eraseIdx_of_lt hi, List.eraseIdx_eq_take_drop_succ, List.map_append]
    exact o8
  · rcases n8 k hk with h | h
    · have := hb1 k h; omega
    · rw [h]; exact hf57.size

/-! The plain law. -/
def Few (N : NetS) : Prop := ∀ a b, (N.q a b).length ≤ 100
theorem Few.setq {N : NetS} (h : Few N) (a b : Int) (l : List ByteArray) (hl : l.length ≤ 100) : Few (N.setq a b l) := by
  intro x y
  simp only [NetS.setq]
  split
  · exact hl
  · exact h x y
theorem Few.new (n : Int) : Few (NetS.new n) := fun _ _ => by simp [NetS.new]
theorem Few.run {N : NetS} (h : Few N) (o : OpS) : Few (o.run N).1 := by
  unfold OpS.run NetS.send NetS.deliver NetS.lose NetS.spoil NetS.cutS
  repeat' split
  all_goals first
    | exact h
    | exact h.setq _ _ _ (by have := h o.a o.b; have := List.length_eraseIdx_le (N.q o.a o.b) o.idx.toNat; omega)
    | exact h.setq _ _ _ (by rw [List.length_modify]; exact h _ _)
    | exact h.setq _ _ _ (by simp; omega)

/-- What the law's own map has to do. -/
theorem del_send {N N1 : NetS} {o : OpS} {s1 : ByteArray} {n1 : Int} (hk : o.kind = 0) (hr : o.run N = (N1, s1, n1, 0)) : (N.q o.a o.b).length < 100 ∧ N1.q = upd N.q o.a o.b (N.q o.a o.b ++ [o.text]) := by
  unfold OpS.run at hr
  rw [if_pos hk] at hr
  unfold NetS.send at hr
  repeat' split at hr
  all_goals first
    | (exfalso; simp at hr; done)
    | (simp only [Prod.mk.injEq] at hr
       obtain ⟨rfl, _⟩ := hr
       exact ⟨by omega, rfl⟩)
theorem drop_q (N : NetS) (a b i : Int) : (N.drop a b i).q = upd N.q a b ((N.q a b).eraseIdx i.toNat) := rfl
theorem del_deliver {N N1 : NetS} {o : OpS} {s1 : ByteArray} {n1 : Int} (hk : o.kind = 1) (hr : o.run N = (N1, s1, n1, 0)) :
    0 ≤ o.idx ∧ o.idx < (N.q o.a o.b).length ∧ s1 = N.msg o.a o.b o.idx ∧ N1.q = if o.flag then N.q else upd N.q o.a o.b ((N.q o.a o.b).eraseIdx o.idx.toNat) := by
  unfold OpS.run at hr
  rw [if_neg (by omega), if_pos hk] at hr
  unfold NetS.deliver at hr
  repeat' split at hr
  all_goals first
    | (exfalso; simp at hr; done)
    | skip
  all_goals
    rename_i h1 h2 h3 h4
    have hh : N.has o.a o.b o.idx = true := by simpa using h3
    have hd := of_decide_eq_true hh
    simp only [Prod.mk.injEq] at hr
    obtain ⟨rfl, rfl, _⟩ := hr
    refine ⟨hd.1, hd.2, rfl, ?_⟩
    simp [h4, drop_q]
theorem del_lose {N N1 : NetS} {o : OpS} {s1 : ByteArray} {n1 : Int} (hk : o.kind = 2) (hr : o.run N = (N1, s1, n1, 0)) :
    0 ≤ o.idx ∧ o.idx < (N.q o.a o.b).length ∧ N1.q = upd N.q o.a o.b ((N.q o.a o.b).eraseIdx o.idx.toNat) := by
  unfold OpS.run at hr
  rw [if_neg (by omega), if_neg (by omega), if_pos hk] at hr
  unfold NetS.lose at hr
  repeat' split at hr
  all_goals first
    | (exfalso; simp at hr; done)
    | skip
  rename_i h1 h3
  have hh : N.has o.a o.b o.idx = true := by simpa using h3
  have hd := of_decide_eq_true hh
  simp only [Prod.mk.injEq] at hr
  obtain ⟨rfl, _⟩ := hr
  exact ⟨hd.1, hd.2, rfl⟩
theorem del_cut {N N1 : NetS} {o : OpS} {s1 : ByteArray} {n1 r1 : Int} (hk : o.kind = 4) (hr : o.run N = (N1, s1, n1, r1)) : N1.q = N.q := by
  unfold OpS.run at hr
  rw [if_neg (by omega), if_neg (by omega), if_neg (by omega), if_neg (by omega), if_pos hk] at hr
  unfold NetS.cutS at hr
  split at hr <;> (simp only [Prod.mk.injEq] at hr; obtain ⟨rfl, _⟩ := hr; rfl)
theorem del_other {N N1 : NetS} {o : OpS} {s1 : ByteArray} {n1 r1 : Int} (hk : o.kind < 0 ∨ 4 < o.kind) (hok : N.ok o.a o.b = true) (hr : o.run N = (N1, s1, n1, r1)) : N1 = N ∧ n1 = (N.q o.a o.b).length ∧ r1 = 0 := by
  unfold OpS.run at hr
  rw [if_neg (by omega), if_neg (by omega), if_neg (by omega), if_neg (by omega), if_neg (by omega)] at hr
  unfold NetS.count at hr
  rw [hok] at hr
  simp only [Prod.mk.injEq] at hr
  obtain ⟨rfl, _, rfl, rfl⟩ := hr
  simp
theorem del_err {N N1 : NetS} {o : OpS} {s1 : ByteArray} {n1 r1 : Int} (hr : o.run N = (N1, s1, n1, r1)) (h : r1 ≠ 0) : N1 = N := by
  have := run_err N o (by rw [hr]; exact h)
  rw [hr] at this; exact this
end Go.Proofs.Ytamjclpopkfhmaa
