/-
The walks of Send, Count and Lose.
-/
import Derived.Test.YtamjclpopkfhmaaWalk4
set_option linter.unusedVariables false
set_option linter.unusedSimpArgs false
namespace Go.Proofs.Ytamjclpopkfhmaa
open Go.RowKit Go.NetKit

/-- What an operation leaves, of a network or of none. -/
def NetToP (w w' : World) (p : Option Addr) (S : Nat → Prop) (N' : NetS) : Prop :=
  ∃ S', NetP w' p S' N' ∧ Fr S w w' ∧ ∀ k, S' k → S k ∨ w.heap.size ≤ k
theorem NetToP.same {w : World} {p : Option Addr} {S : Nat → Prop} {N : NetS} (h : NetP w p S N) : NetToP w w p S N := ⟨S, h, Fr.refl _ _, fun _ hk => .inl hk⟩
theorem NetTo.p {w w' : World} {g : Nat} {S : Nat → Prop} {N' : NetS} (h : NetTo w w' g S N') : NetToP w w' (some ⟨g, 0, none⟩) S N' := by
  obtain ⟨S', h1, h2⟩ := h
  exact ⟨S', .inr ⟨g, rfl, h1⟩, h2⟩
theorem NetP.ok {w : World} {p : Option Addr} {S : Nat → Prop} {N : NetS} (h : NetP w p S N) {a b : Int} (hok : N.ok a b = true) : ∃ g, p = some ⟨g, 0, none⟩ ∧ NetAt w g S N := by
  rcases h with ⟨rfl, rfl, _⟩ | h
  · exfalso
    have := of_decide_eq_true hok
    have h2 : b < 0 := this.2.2.2.1
    omega
  · exact h

section
variable {w : World} {g mq mc : Nat} {nodes : Int} {E C : List Ent} {ck cc : Nat} {lab : Nat → Option (Int × Int)} {L : Int → Int → List (Nat × ByteArray)} {S : Nat → Prop}
theorem lookup_cut (h : NIs w g mq mc nodes E C ck cc lab L) {a b : Int} {x : Bool} (hc : cutOf C a b = x) :
    ∀ W, bk W mc = some (.map (ents C) cc) → (Instr.lookup 58 (.map (some mc)) (.agg #[.int .i64 a, .int .i64 b]) false).run Try.prog W = .ok (.bool x) W := fun W hW => by
  rw [lookup58 mc C cc a b W hW, cut_val h.cvals, hc]

set_option maxHeartbeats 400000 in
theorem send_cut (h : NIs w g mq mc nodes E C ck cc lab L) (hS : ∀ k, S k ↔ foot g mq mc lab k) (a b : Int) (s : ByteArray) (hok : (netOf nodes C L).ok a b = true) (hc : cutOf C a b = true) :
    Calls Try.prog 15 #[.pointer (some ⟨g, 0, none⟩), .int .i64 a, .int .i64 b, .string s] w fun e w' => e = .returned (.int .i64 20) ∧ NetTo w w' g S (netOf nodes C L) := by
  have hlk := lookup_cut h hc
  have HG := Lib.hid (of_good h a b hok)
  have HS := Lib.hid hS
  clear h hok hc hS
  go_enter Try.func15, Try.ntmps15
  go_wp2_with (go_at_call 30; refine HG.out.mono ?_; rintro e w1 ⟨q, E', ck', lab', rfl, hp⟩; obtain ⟨r1, r2, r3, r4, r5, A, c, r6, r7, hQ⟩ := hp.reads)
  go_ret
  exact ⟨rfl, hp.same HS.out⟩

set_option maxHeartbeats 400000 in
theorem send_long (h : NIs w g mq mc nodes E C ck cc lab L) (hS : ∀ k, S k ↔ foot g mq mc lab k) (a b : Int) (s : ByteArray) (hok : (netOf nodes C L).ok a b = true) (hc : cutOf C a b = false) (hs : 20000 < s.size) :
    Calls Try.prog 15 #[.pointer (some ⟨g, 0, none⟩), .int .i64 a, .int .i64 b, .string s] w fun e w' => e = .returned (.int .i64 2) ∧ NetTo w w' g S (netOf nodes C L) := by
  have hlk := lookup_cut h hc
  have hs' : (20000 : Int) < (s.size : Int) := by omega
  have HG := Lib.hid (of_good h a b hok)
  have HS := Lib.hid hS
  clear h hok hc hS
  go_enter Try.func15, Try.ntmps15
  go_wp2_with (go_at_call 30; refine HG.out.mono ?_; rintro e w1 ⟨q, E', ck', lab', rfl, hp⟩; obtain ⟨r1, r2, r3, r4, r5, A, c, r6, r7, hQ⟩ := hp.reads)
  go_ret
  exact ⟨rfl, hp.same HS.out⟩

set_option maxHeartbeats 400000 in
theorem send_full (h : NIs w g mq mc nodes E C ck cc lab L) (hS : ∀ k, S k ↔ foot g mq mc lab k) (a b : Int) (s : ByteArray) (hok : (netOf nodes C L).ok a b = true) (hc : cutOf C a b = false) (hs : s.size ≤ 20000) (hn : 100 ≤ (L a b).length) :
    Calls Try.prog 15 #[.pointer (some ⟨g, 0, none⟩), .int .i64 a, .int .i64 b, .string s] w fun e w' => e = .returned (.int .i64 21) ∧ NetTo w w' g S (netOf nodes C L) := by
  have hlk := lookup_cut h hc
  have hs' : (s.size : Int) ≤ 20000 := by omega
  have hn' : (100 : Int) ≤ ((L a b).length : Int) := by omega
  have HG := Lib.hid (of_good h a b hok)
  have HS := Lib.hid hS
  clear h hok hc hS
  go_enter Try.func15, Try.ntmps15
  go_wp2_with (go_at_call 30; refine HG.out.mono ?_; rintro e w1 ⟨q, E', ck', lab', rfl, hp⟩; obtain ⟨r1, r2, r3, r4, r5, A, c, r6, r7, hQ⟩ := hp.reads)
  go_ret
  exact ⟨rfl, hp.same HS.out⟩

/-- The queue behind Send's append and store. -/
theorem pushed {w1 w' : World} {q : Nat} {A A' : Option Addr} {c c' : Nat} {S : Nat → Prop} {Lq : List (Nat × ByteArray)} {s : ByteArray} (hQ : QIs w1 S q (.slice A Lq.length c) Lq) (hSlt : ∀ k, S k → k < w1.heap.size)
    (hown : w'.ownsRow 0 38 1 (.slice A' (Lq.length + 1) c') (Lq.length + 1) (Lq.map msgV ++ [msgV (w1.heap.size, s)]))
    (hfr : Fr (fun k => (Value.slice A Lq.length c).ownBlock = some k) (w1.alloc (.cells (cellsOf s) 5)) w')
    (hnew : ∀ k, (Value.slice A' (Lq.length + 1) c').ownBlock = some k → (Value.slice A Lq.length c).ownBlock = some k ∨ (w1.alloc (.cells (cellsOf s) 5)).heap.size ≤ k) :
    Fr S w1 (w'.setCell ⟨q, 0, none⟩ (.slice A' (Lq.length + 1) c')) ∧
    QIs (w'.setCell ⟨q, 0, none⟩ (.slice A' (Lq.length + 1) c')) (fun k => S k ∨ k = w1.heap.size ∨ (Value.slice A' (Lq.length + 1) c').ownBlock = some k) q (.slice A' (Lq.length + 1) c') (Lq ++ [(w1.heap.size, s)]) ∧
    (∀ k, (S k ∨ k = w1.heap.size ∨ (Value.slice A' (Lq.length + 1) c').ownBlock = some k) → S k ∨ w1.heap.size ≤ k) ∧
    (∀ k, (S k ∨ k = w1.heap.size ∨ (Value.slice A' (Lq.length + 1) c').ownBlock = some k) → k < (w'.setCell ⟨q, 0, none⟩ (.slice A' (Lq.length + 1) c')).heap.size) := by
  have hq1 := bk_lt hQ.hq
  have hne := QIs_row_ne hQ
  have ha : Fr S w1 (w1.alloc (.cells (cellsOf s) 5)) := (Fr.refl _ _).alloc _
  have h1 : Fr S w1 w' := ha.trans' hfr fun k _ hk => hQ.sr k hk
  have bq : bk w' q = some (.cells #[.slice A Lq.length c] 70 (0, 0)) := hfr.bk (by rw [bk_alloc_lt hq1]; exact hQ.hq) hne
  have hf : Fr S w1 (w'.setCell ⟨q, 0, none⟩ (.slice A' (Lq.length + 1) c')) := h1.setCell (p := ⟨q, 0, none⟩) (fun _ => hQ.sq) _
  have hsz : (w'.setCell ⟨q, 0, none⟩ (.slice A' (Lq.length + 1) c')).heap.size = w'.heap.size := by simp [World.setCell]
  have hsz2 : w1.heap.size + 1 ≤ w'.heap.size := by have := hfr.size; simpa using this
  have row_lt : ∀ k, (Value.slice A' (Lq.length + 1) c').ownBlock = some k → k < w'.heap.size ∧ k ≠ q := by
    intro k hk
    rcases hown.2 with ⟨h0, _⟩ | ⟨g, cap, cur, hv, _, hh, _⟩
    · rw [h0] at hk; cases hk
    · rw [hv] at hk; injection hk with hk; subst hk
      refine ⟨bk_lt (n := g) hh, ?_⟩
      rintro rfl
      have := bq.symm.trans hh
      injection this with this; injection this with _ h2; cases h2
  have bm : ∀ {k : Nat} {x : ByteArray}, k < w1.heap.size + 1 → bk (w1.alloc (.cells (cellsOf s) 5)) k = some (.cells (cellsOf x) 5) → bk (w'.setCell ⟨q, 0, none⟩ (.slice A' (Lq.length + 1) c')) k = some (.cells (cellsOf x) 5) := by
    intro k x hk hb
    have n1 : ¬ (Value.slice A Lq.length c).ownBlock = some k := by
      intro e
      rcases hQ.own.2 with ⟨h0, _⟩ | ⟨g, cap, cur, hv, _, hh, _⟩
      · rw [h0] at e; cases e
      · rw [hv] at e; injection e with e; subst e
        have h3 : bk (w1.alloc (.cells (cellsOf s) 5)) g = some (.cells cur 38) := by rw [bk_alloc_lt (bk_lt (n := g) hh)]; exact hh
        have := hb.symm.trans h3
        injection this with this; injection this with _ h2; cases h2
    have b1 := hfr.bk hb n1
    rw [bk_setCell_ne (p := ⟨q, 0, none⟩) ?_]
    · exact b1
    · rintro e
      rw [e] at b1
      have := b1.symm.trans bq
      injection this with this; injection this with _ h2; cases h2
  refine ⟨hf, ⟨?_, ?_, ?_, ?_, .inl hQ.sq, fun k hk => .inr (.inr hk), ?_⟩, ?_, ?_⟩
  · rw [bk_setCell bq]; rfl
  · rw [List.map_append, List.length_append]
    refine ownsRow_fr hown (T := fun k => k = q) ((Fr.refl (fun k => k = q) w').setCell (p := ⟨q, 0, none⟩) (fun _ => rfl) _) ?_
    intro k hk e
    exact (row_lt k hk).2 e
  · intro p hp
    rcases List.mem_append.1 hp with hp | hp
    · have hb := hQ.msg p hp
      have := bk_lt hb
      exact bm (by omega) (by rw [bk_alloc_lt this]; exact hb)
    · rw [List.mem_singleton] at hp; subst hp
      exact bm (by omega) bk_alloc_new
  · rw [List.map_append]
    refine List.nodup_append.2 ⟨hQ.nd, by simp, ?_⟩
    intro x hx y hy
    obtain ⟨p, hp, rfl⟩ := List.mem_map.1 hx
    have := bk_lt (hQ.msg p hp)
    simp at hy; omega
  · intro p hp
    rcases List.mem_append.1 hp with hp | hp
    · exact .inl (hQ.sm p hp)
    · rw [List.mem_singleton] at hp; subst hp
      exact .inr (.inl rfl)
  · rintro k (hk | rfl | hk)
    · exact .inl hk
    · exact .inr (Nat.le_refl _)
    · rcases hnew k hk with h2 | h2
      · exact .inl (hQ.sr k h2)
      · simp at h2; exact .inr (by omega)
  · rintro k (hk | rfl | hk)
    · have := hSlt k hk; omega
    · omega
    · rw [hsz]; exact (row_lt k hk).1

set_option maxHeartbeats 400000 in
theorem send_good (h : NIs w g mq mc nodes E C ck cc lab L) (hS : ∀ k, S k ↔ foot g mq mc lab k) (a b : Int) (s : ByteArray) (hok : (netOf nodes C L).ok a b = true) (hc : cutOf C a b = false) (hs : s.size ≤ 20000) (hn : (L a b).length < 100) :
    Calls Try.prog 15 #[.pointer (some ⟨g, 0, none⟩), .int .i64 a, .int .i64 b, .string s] w fun e w' => e = .returned (.int .i64 0) ∧ NetTo w w' g S ((netOf nodes C L).setq a b ((L a b).map (·.2) ++ [s])) := by
  have hlk := lookup_cut h hc
  have hmk : ∀ W, (Instr.makeSlice 38 (.int .i64 (s.size : Int)) (.int .i64 (s.size : Int))).run Try.prog W = .ok (.slice (some ⟨W.heap.size, 0, none⟩) s.size s.size) (W.alloc (.cells (madeCells #[.int .u8 0] s.size) 5)) :=
    fun W => run_make_row' 38 5 (.int .u8 0) 1 Try.underlying38 Try.info5 rfl .i64 .i64 s.size (by omega) (by omega) W
  have HC := Lib.hid (show ∀ (W : World) ty, (Builtin.copy_ #[38, 9] ty #[.slice (some ⟨W.heap.size, 0, none⟩) s.size s.size, .string s]).run Try.prog (W.alloc (.cells (madeCells #[.int .u8 0] s.size) 5)) = .ok (goInt s.size) (W.alloc (.cells (cellsOf s) 5)) from by
    intro W ty
    obtain ⟨inf, hinf, _⟩ := Option.map_eq_some_iff.1 Try.info5
    rw [run_copy_str (W.alloc (.cells (madeCells #[.int .u8 0] s.size) 5)) Try.underlying38 hinf W.heap.size s.size _ s bk_alloc_new (by simp [madeCells]), setBk_alloc_new]; rfl)
  have HG := Lib.hid (of_good h a b hok)
  have HS := Lib.hid hS
  clear h hok hc hS
  go_enter Try.func15, Try.ntmps15
  go_wp2_with (first
    | (go_at_call 30; refine HG.out.mono ?_; rintro e w1 ⟨q, E', ck', lab', rfl, hp⟩; obtain ⟨r1, r2, r3, r4, r5, A, c, r6, r7, hQ⟩ := hp.reads
       have hcp := HC.out w1
       obtain ⟨v', w', hr, hown, hfr, hnew⟩ := run_append_push (P := Try.prog) (w1.alloc (.cells (cellsOf s) 5)) Try.underlying68 Try.info38b rfl (.slice A (L a b).length c) (L a b).length ((L a b).map msgV) (msgV (w1.heap.size, s)) (hQ.own.alloc _) rfl (by omega) (by omega)
       obtain ⟨A', c', rfl⟩ := ownsRow_form1 hown (by omega)
       have b1 : bk w' q = some (.cells #[.slice A (L a b).length c] 70 (0, 0)) := hfr.bk (by rw [bk_alloc_lt r5]; exact hQ.hq) (QIs_row_ne hQ)
       have c1 : w'.cell? ⟨q, 0, none⟩ = some (.slice A (L a b).length c) := by rw [cell?_bk b1]; rfl
       have f1 : w'.frozen? ⟨q, 0, none⟩ = false := frozen?_bk b1 0
       have HR := Lib.hid (show ∀ ty, (Builtin.append_ #[68, 68] ty #[.slice A (L a b).length c, .slice (some ⟨w1.heap.size + 1, 0, none⟩) 1 1]).run Try.prog ((w1.alloc (.cells (cellsOf s) 5)).alloc (.cells #[.slice (some ⟨w1.heap.size, 0, none⟩) s.size s.size] 38)) = .ok (.slice A' ((L a b).length + 1) c') w' from fun ty => by
         have := hr ty; rw [World.size_alloc] at this; exact this)
       have HP := Lib.hid (pushed hQ (fun k hk => hp.net.lt k (by rw [hk]; rfl)) hown hfr hnew)
       clear hown hfr hnew hr b1)
    | (at_builtin; refine wpList_builtin rfl .append #[.tmp 52, .tmp 54] #[68, 68] rfl #[.slice A (L a b).length c, .slice (some ⟨w1.heap.size + 1, 0, none⟩) 1 1] (by simp [Act.eval]) (ran_append HR.out) ?_))
  go_ret
  obtain ⟨p1, p2, p3, p4⟩ := HP.out
  have := hp.turned HS.out p1 (fun _ hk => hk) p2 p3 p4
  rw [List.map_append] at this
  exact ⟨rfl, this⟩
end

set_option maxHeartbeats 400000 in
theorem send_wrong {w : World} {p : Option Addr} {S : Nat → Prop} {N : NetS} (h : NetP w p S N) (a b : Int) (s : ByteArray) (hok : N.ok a b = false) :
    Calls Try.prog 15 #[.pointer p, .int .i64 a, .int .i64 b, .string s] w fun e w' => e = .returned (.int .i64 1) ∧ w' = w := by
  have HG := Lib.hid (of_wrong h a b hok)
  clear h hok
  go_enter Try.func15, Try.ntmps15
  go_wp2_with (go_at_call 30; refine HG.out.mono ?_; rintro e w' ⟨rfl, rfl⟩)
  go_ret
  exact ⟨rfl, rfl⟩

/-- Send. -/
theorem send_calls {w : World} {p : Option Addr} {S : Nat → Prop} {N : NetS} (h : NetP w p S N) (a b : Int) (s : ByteArray) :
    Calls Try.prog 15 #[.pointer p, .int .i64 a, .int .i64 b, .string s] w fun e w' => e = .returned (.int .i64 (N.send a b s).2) ∧ NetToP w w' p S (N.send a b s).1 := by
  unfold NetS.send
  by_cases hok : N.ok a b = false
  · rw [if_pos hok]
    refine (send_wrong h a b s hok).mono ?_
    rintro e w' ⟨rfl, rfl⟩
    exact ⟨rfl, NetToP.same h⟩
  · rw [if_neg hok]
    have hok' : N.ok a b = true := by simpa using hok
    obtain ⟨g, rfl, mq, mc, nodes, E, C, ck, cc, lab, L, h1, h2, rfl⟩ := h.ok hok'
    have hcut : (netOf nodes C L).cut a b = cutOf C a b := rfl
    have hq : (netOf nodes C L).q a b = (L a b).map (·.2) := rfl
    rw [hcut, hq, List.length_map]
    by_cases hc : cutOf C a b = true
    · rw [if_pos hc]
      exact (send_cut h1 h2 a b s hok' hc).mono fun e w' hh => ⟨hh.1, NetTo.p hh.2⟩
    · rw [if_neg hc]
      have hc' : cutOf C a b = false := by simpa using hc
      by_cases hs : 20000 < s.size
      · rw [if_pos hs]
        exact (send_long h1 h2 a b s hok' hc' hs).mono fun e w' hh => ⟨hh.1, NetTo.p hh.2⟩
      · rw [if_neg hs]
        by_cases hn : 100 ≤ (L a b).length
        · rw [if_pos hn]
          exact (send_full h1 h2 a b s hok' hc' (by omega) hn).mono fun e w' hh => ⟨hh.1, NetTo.p hh.2⟩
        · rw [if_neg hn]
          exact (send_good h1 h2 a b s hok' hc' (by omega) (by omega)).mono fun e w' hh => ⟨hh.1, NetTo.p hh.2⟩
end Go.Proofs.Ytamjclpopkfhmaa
