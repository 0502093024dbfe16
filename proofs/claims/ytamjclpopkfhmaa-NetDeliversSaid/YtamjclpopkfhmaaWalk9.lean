/-
The walk of Cut.
-/
import Derived.Test.YtamjclpopkfhmaaWalk8
import Derived.Test.YtamjclpopkfhmaaEntKit
set_option linter.unusedVariables false
set_option linter.unusedSimpArgs false
namespace Go.Proofs.Ytamjclpopkfhmaa
open Go.RowKit Go.NetKit

theorem entry58 (mc : Nat) (C : List Ent) (ck : Nat) (f t : Int) (W : World) (h : bk W mc = some (.map (ents C) ck)) :
    (Instr.mapEntry 58 (.map (some mc)) (.agg #[.int .i64 f, .int .i64 t])).run Try.prog W = .ok (.tuple #[(lk f t C).getD (.bool false), .int .i64 (bornAt f t ck C)]) (setBk W mc (.map (ents (ent f t (.bool false) ck C)) (if (lk f t C).isSome then ck else ck + 1))) := by
  obtain ⟨i, hi⟩ := Option.isSome_iff_exists.1 Try.info3
  obtain ⟨z, hz, hz0⟩ := bind_some' Try.zero4
  exact run_mapEntry2 W Try.underlying58 Try.underlying45 Try.underlying3 hi Try.cells3 hz hz0 mc ck C h f t

theorem lk_ent (a b : Int) (z : Value) (clk : Nat) (l : List Ent) : (lk a b (ent a b z clk l)).isSome = true := by
  unfold ent
  by_cases h : (lk a b l).isSome = true
  · rw [if_pos h]; exact h
  · rw [if_neg h]
    have hn : lk a b l = none := by simpa using h
    clear h
    induction l with
    | nil => simp [lk]
    | cons x l ih =>
      unfold lk at hn
      split at hn
      · cases hn
      · rename_i hx
        rw [List.cons_append]; unfold lk; rw [if_neg hx]; exact ih hn
theorem born_ent (a b : Int) (z : Value) (clk : Nat) (l : List Ent) : bornAt a b clk (ent a b z clk l) = bornAt a b clk l := by
  unfold ent
  by_cases h : (lk a b l).isSome = true
  · rw [if_pos h]
  · rw [if_neg h]
    have hn : lk a b l = none := by simpa using h
    clear h
    induction l with
    | nil => simp [bornAt]
    | cons x l ih =>
      unfold lk at hn
      split at hn
      · cases hn
      · rename_i hx
        rw [List.cons_append]; unfold bornAt; rw [if_neg hx, if_neg hx]; exact ih hn
theorem put_ent (a b : Int) (z v : Value) (clk : Nat) (l : List Ent) : put a b v clk (ent a b z clk l) = put a b v clk l := by
  unfold ent
  by_cases h : (lk a b l).isSome = true
  · rw [if_pos h]
  · rw [if_neg h]
    have hn : lk a b l = none := by simpa using h
    clear h
    induction l with
    | nil => simp [put]
    | cons x l ih =>
      unfold lk at hn
      split at hn
      · cases hn
      · rename_i hx
        rw [List.cons_append]; unfold put; rw [if_neg hx, if_neg hx]; rw [ih hn]
theorem born_put (a b : Int) (v : Value) (clk : Nat) (l : List Ent) (h : Born l clk) : Born (put a b v clk l) (if (lk a b l).isSome then clk else clk + 1) := by
  cases hx : lk a b l with
  | none =>
    have : idx a b l 0 = none := by
      have := idx_lk a b l 0; rw [hx] at this; simpa using this
    rw [put_new a b v clk l 0 this]
    simp only [Option.isSome_none, Bool.false_eq_true, if_false]
    refine ⟨?_, ?_⟩
    · intro e he
      rcases List.mem_append.1 he with he | he
      · have := h.1 e he; omega
      · rw [List.mem_singleton] at he; subst he; simp
    · rw [List.map_append]
      refine List.nodup_append.2 ⟨h.2, by simp, ?_⟩
      intro x hx' y hy
      obtain ⟨e, he, rfl⟩ := List.mem_map.1 hx'
      have := h.1 e he
      simp at hy; omega
  | some u =>
    simp only [Option.isSome_some, if_true]
    have hm : (put a b v clk l).map (·.born) = l.map (·.born) := by
      clear h
      induction l with
      | nil => simp [lk] at hx
      | cons x l ih =>
        unfold lk at hx
        unfold put
        split
        · rfl
        · rename_i hc; rw [if_neg hc] at hx
          simp [ih hx]
    refine ⟨?_, by rw [hm]; exact h.2⟩
    intro e he
    have : e.born ∈ (put a b v clk l).map (·.born) := List.mem_map_of_mem he
    rw [hm] at this
    obtain ⟨e', he', h2⟩ := List.mem_map.1 this
    rw [← h2]; exact h.1 e' he'
theorem born_ent2 (a b : Int) (z : Value) (clk : Nat) (l : List Ent) (h : Born l clk) : Born (ent a b z clk l) (if (lk a b l).isSome then clk else clk + 1) := by
  cases hx : lk a b l with
  | none =>
    have h2 : ent a b z clk l = l ++ [⟨a, b, z, clk⟩] := by unfold ent; rw [hx]; rfl
    have : idx a b l 0 = none := by
      have := idx_lk a b l 0; rw [hx] at this; simpa using this
    have h3 := born_put a b z clk l h
    rw [put_new a b z clk l 0 this, hx] at h3
    rw [h2]; exact h3
  | some u =>
    have h2 : ent a b z clk l = l := by unfold ent; rw [hx]; rfl
    rw [h2]; simpa using h

theorem cutOf_put2 (C : List Ent) (a b : Int) (off : Bool) (c1 c2 : Nat) : cutOf (put b a (.bool off) c2 (put a b (.bool off) c1 C)) = fun x y => if x = a ∧ y = b ∨ x = b ∧ y = a then off else cutOf C x y := by
  funext x y
  unfold cutOf
  rw [lk_put, lk_put]
  by_cases h1 : x = b ∧ y = a
  · rw [if_pos h1, if_pos (.inr h1)]
  · rw [if_neg h1]
    by_cases h2 : x = a ∧ y = b
    · rw [if_pos h2, if_pos (.inl h2)]
    · rw [if_neg h2, if_neg (by rintro (h | h); exact h2 h; exact h1 h)]

theorem OfPost.cutTo {w w1 : World} {g mq mc : Nat} {nodes : Int} {C : List Ent} {cc : Nat} {lab : Nat → Option (Int × Int)} {L : Int → Int → List (Nat × ByteArray)} {a b : Int} {q : Nat} {E' : List Ent} {ck' : Nat} {lab' : Nat → Option (Int × Int)} {S : Nat → Prop}
    (hp : OfPost w w1 g mq mc nodes C cc lab L a b q E' ck' lab') (hS : ∀ k, S k ↔ foot g mq mc lab k) (off : Bool) (C1 C2 C3 : List Ent) (c1 c2 c3 c4 : Nat)
    (hB : Born (put b a (.bool off) c1 (put a b (.bool off) cc C)) c4) :
    NetTo w (setBk (setBk (setBk (setBk w1 mc (.map (ents C1) c1)) mc (.map (ents C2) c2)) mc (.map (ents C3) c3)) mc (.map (ents (put b a (.bool off) c1 (put a b (.bool off) cc C))) c4)).drew g S ((netOf nodes C L).setc a b off) := by
  simp only [setBk_setBk]
  have hf : Fr (fun k => k = mc) w1 (setBk w1 mc (.map (ents (put b a (.bool off) c1 (put a b (.bool off) cc C))) c4)).drew := ((Fr.refl (fun k => k = mc) w1).setBk (fun _ => rfl) _).drew
  have hn := hp.net
  have ngc : ¬ g = mc := by
    rintro rfl
    have := hn.hg.symm.trans hn.hmc
    injection this with this; cases this
  have hn' : NIs (setBk w1 mc (.map (ents (put b a (.bool off) c1 (put a b (.bool off) cc C))) c4)).drew g mq mc nodes E' (put b a (.bool off) c1 (put a b (.bool off) cc C)) ck' c4 lab' L := by
    refine ⟨hf.bk hn.hg ngc, hf.bk hn.hmq hn.ne, ?_, hn.ne, hB, hn.small, ?_, hn.empty, ?_, hn.lg, hn.lq, hn.lc, fun k hk => Nat.lt_of_lt_of_le (hn.lt k hk) hf.size⟩
    · rw [bk_drew, bk_setBk (bk_lt hn.hmc)]
    · intro x y v hv
      obtain ⟨q, lv, e, hq⟩ := hn.vals x y v hv
      refine ⟨q, lv, e, hq.fr hf ?_⟩
      rintro k hk rfl
      rw [hn.lc] at hk; cases hk
    · intro x y v hv
      rw [lk_put, lk_put] at hv
      split at hv
      · injection hv with hv; exact ⟨off, hv.symm⟩
      · split at hv
        · injection hv with hv; exact ⟨off, hv.symm⟩
        · exact hn.cvals x y v hv
  refine ⟨foot g mq mc lab', ⟨mq, mc, nodes, E', _, ck', c4, lab', L, hn', fun _ => Iff.rfl, ?_⟩, ?_, ?_⟩
  · unfold netOf NetS.setc
    rw [cutOf_put2]
  · refine (hp.fr.weaken (fun k _ hk => (hS k).2 (.inr (.inl hk)))).trans' hf ?_
    intro k _ hk
    exact (hS k).2 (.inr (.inr (.inl hk)))
  · intro k hk
    rcases hp.new k with h | h
    · left
      refine (hS k).2 ?_
      unfold foot at hk ⊢
      rwa [h] at hk
    · exact .inr h

set_option maxHeartbeats 1000000 in
theorem cut_good {w : World} {g mq mc : Nat} {nodes : Int} {E C : List Ent} {ck cc : Nat} {lab : Nat → Option (Int × Int)} {L : Int → Int → List (Nat × ByteArray)} {S : Nat → Prop} (h : NIs w g mq mc nodes E C ck cc lab L) (hS : ∀ k, S k ↔ foot g mq mc lab k) (a b : Int) (off : Bool) (hok : (netOf nodes C L).ok a b = true) :
    Calls Try.prog 21 #[.pointer (some ⟨g, 0, none⟩), .int .i64 a, .int .i64 b, .bool off] w fun e w' => e = .returned (.int .i64 0) ∧ NetTo w w' g S ((netOf nodes C L).setc a b off) := by
  generalize hc1 : (if (lk a b C).isSome then cc else cc + 1) = cc1
  have hB1 := born_ent2 a b (.bool false) cc C h.born
  have hB2 := born_put a b (.bool off) cc C h.born
  rw [hc1] at hB1 hB2
  generalize hc2 : (if (lk b a (put a b (.bool off) cc C)).isSome then cc1 else cc1 + 1) = cc2
  have hB3 := born_ent2 b a (.bool false) cc1 _ hB2
  have hB4 := born_put b a (.bool off) cc1 _ hB2
  rw [hc2] at hB3 hB4
  have e1 := fun W hW => entry58 mc C cc a b W hW
  have e2 := fun W hW => run_entryStore2 (P := Try.prog) (mt := 58) W mc cc1 (ent a b (.bool false) cc C) hW hB1.2 a b (.bool off) (lk_ent _ _ _ _ _) cc
  have e3 := fun W hW => entry58 mc (put a b (.bool off) cc C) cc1 b a W hW
  have e4 := fun W hW => run_entryStore2 (P := Try.prog) (mt := 58) W mc cc2 (ent b a (.bool false) cc1 (put a b (.bool off) cc C)) hW hB3.2 b a (.bool off) (lk_ent _ _ _ _ _) cc1
  rw [hc1] at e1
  rw [hc2] at e3
  rw [born_ent, put_ent] at e2 e4
  generalize hx1 : ent a b (.bool false) cc C = C1 at *
  generalize hx2 : put a b (.bool off) cc C = C2 at *
  generalize hx3 : ent b a (.bool false) cc1 C2 = C3 at *
  generalize hx4 : put b a (.bool off) cc1 C2 = C4 at *
  generalize bornAt a b cc C = n1 at *
  generalize bornAt b a cc1 C2 = n2 at *
  generalize (lk a b C).getD (.bool false) = v1 at *
  generalize (lk b a C2).getD (.bool false) = v2 at *
  simp only [goInt] at e1 e2 e3 e4
  have HG := Lib.hid (of_good h a b hok)
  have HS := Lib.hid hS
  have HX := Lib.hid (And.intro hx2 (And.intro hx4 hB4))
  clear h hok hS hx1 hx2 hx3 hx4 hc1 hc2 hB1 hB2 hB3 hB4
  go_enter Try.func21, Try.ntmps21
  go_wp2_with (go_at_call 30; refine HG.out.mono ?_; rintro e w1 ⟨q, E', ck', lab', rfl, hp⟩; obtain ⟨r1, r2, r3, r4, r5, A, c, r6, r7, hQ⟩ := hp.reads
               have ngc : ¬ g = mc := by
                 rintro rfl
                 have := hp.net.hg.symm.trans hp.net.hmc
                 injection this with this; cases this)
  go_region
  go_wp2
  go_ret
  obtain ⟨rfl, rfl, hB⟩ := HX.out
  exact ⟨rfl, hp.cutTo HS.out off _ _ _ _ _ _ _ hB⟩

set_option maxHeartbeats 400000 in
theorem cut_wrong {w : World} {p : Option Addr} {S : Nat → Prop} {N : NetS} (h : NetP w p S N) (a b : Int) (off : Bool) (hok : N.ok a b = false) :
    Calls Try.prog 21 #[.pointer p, .int .i64 a, .int .i64 b, .bool off] w fun e w' => e = .returned (.int .i64 1) ∧ w' = w := by
  have HG := Lib.hid (of_wrong h a b hok)
  clear h hok
  go_enter Try.func21, Try.ntmps21
  go_wp2_with (go_at_call 30; refine HG.out.mono ?_; rintro e w' ⟨rfl, rfl⟩)
  go_ret
  exact ⟨rfl, rfl⟩

theorem cut_calls {w : World} {p : Option Addr} {S : Nat → Prop} {N : NetS} (h : NetP w p S N) (a b : Int) (off : Bool) :
    Calls Try.prog 21 #[.pointer p, .int .i64 a, .int .i64 b, .bool off] w fun e w' => e = .returned (.int .i64 (N.cutS a b off).2) ∧ NetToP w w' p S (N.cutS a b off).1 := by
  unfold NetS.cutS
  by_cases hok : N.ok a b = false
  · rw [if_pos hok]
    refine (cut_wrong h a b off hok).mono ?_
    rintro e w' ⟨rfl, rfl⟩
    exact ⟨rfl, NetToP.same h⟩
  · rw [if_neg hok]
    have hok' : N.ok a b = true := by simpa using hok
    obtain ⟨g, rfl, mq, mc, nodes, E, C, ck, cc, lab, L, h1, h2, rfl⟩ := h.ok hok'
    exact (cut_good h1 h2 a b off hok').mono fun e w' hh => ⟨hh.1, NetTo.p hh.2⟩
end Go.Proofs.Ytamjclpopkfhmaa
