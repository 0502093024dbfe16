/-
The walk of Spoil.
-/
import Derived.Test.YtamjclpopkfhmaaWalk7
set_option linter.unusedVariables false
set_option linter.unusedSimpArgs false
namespace Go.Proofs.Ytamjclpopkfhmaa
open Go.RowKit Go.NetKit
theorem flip_bits (x : UInt8) (mask : Int) (h1 : 1 ≤ mask) (h2 : mask ≤ 255) : bits .xor .u8 (x.toNat : Int) mask = ((NetS.flip x mask).toNat : Int) := by
  have hx := x.toNat_lt
  rw [u8_xor _ _ (by omega) (by omega) (by omega) (by omega)]
  unfold NetS.flip
  rw [UInt8.toNat_xor, UInt8.toNat_ofNat', Int.toNat_natCast, Nat.mod_eq_of_lt (by omega)]

theorem cellsOf_spoilt (s : ByteArray) (at_ : Nat) (mask : Int) (h1 : 1 ≤ mask) (h2 : mask ≤ 255) (hat : at_ < s.data.size) :
    (cellsOf s).setIfInBounds at_ (.int .u8 (bits .xor .u8 ((s.data[at_]).toNat : Int) mask)) = cellsOf (NetS.spoilt s at_ mask) := by
  rw [flip_bits _ _ h1 h2]
  unfold cellsOf NetS.spoilt
  apply Array.ext_getElem?
  intro k
  rw [Array.getElem?_setIfInBounds]
  simp only [Array.getElem?_map, Int.toNat_natCast, Array.getElem?_modify]
  by_cases hk : at_ = k
  · subst hk
    have he : s.data[at_]? = some s.data[at_] := Array.getElem?_eq_getElem hat
    rw [if_pos rfl, if_pos (by simpa using hat), he]; simp
  · rw [if_neg hk, if_neg hk]

theorem spoilt_size (s : ByteArray) (at_ mask : Int) : (NetS.spoilt s at_ mask).size = s.size := by
  show (s.data.modify _ _).size = s.data.size
  rw [Array.size_modify]

theorem modify_map_fst {α β : Type} (f : β → β) : ∀ (l : List (α × β)) (i : Nat), (l.modify i (fun p => (p.1, f p.2))).map (·.1) = l.map (·.1)
  | [], i => by cases i <;> rfl
  | x :: l, 0 => rfl
  | x :: l, i + 1 => by simpa using modify_map_fst f l i
theorem modify_map_snd {α β : Type} (f : β → β) : ∀ (l : List (α × β)) (i : Nat), (l.modify i (fun p => (p.1, f p.2))).map (·.2) = (l.map (·.2)).modify i f
  | [], i => by cases i <;> rfl
  | x :: l, 0 => rfl
  | x :: l, i + 1 => by simpa using modify_map_snd f l i
theorem modify_map_msg {f : ByteArray → ByteArray} (hf : ∀ s, (f s).size = s.size) : ∀ (l : List (Nat × ByteArray)) (i : Nat), (l.modify i (fun p => (p.1, f p.2))).map msgV = l.map msgV
  | [], i => by cases i <;> rfl
  | x :: l, 0 => by simp [msgV, hf]
  | x :: l, i + 1 => by simpa using modify_map_msg hf l i

theorem nodup_idx {α : Type} {l : List α} (h : l.Nodup) {i j : Nat} (hi : i < l.length) (hj : j < l.length) (e : l[i] = l[j]) : i = j := by
  have hp := List.pairwise_iff_getElem.1 h
  rcases Nat.lt_trichotomy i j with hlt | heq | hgt
  · exact absurd e (hp i j hi hj hlt)
  · exact heq
  · exact absurd e.symm (hp j i hj hi hgt)

/-- A queue one byte of whose messages has turned. -/
theorem flipped {w : World} {S : Nat → Prop} {q : Nat} {lv : Value} {L : List (Nat × ByteArray)} (h : QIs w S q lv L) (i at_ : Nat) (mask : Int) (h1 : 1 ≤ mask) (h2 : mask ≤ 255) (hi : i < L.length) {m : Nat × ByteArray} (hm : L[i] = m) (hat : at_ < m.2.data.size) :
    QIs (w.setCell ⟨m.1, at_, none⟩ (.int .u8 (bits .xor .u8 ((m.2.data[at_]).toNat : Int) mask))) S q lv (L.modify i (fun p => (p.1, NetS.spoilt p.2 at_ mask))) := by
  have hmem : m ∈ L := hm ▸ List.getElem_mem hi
  have hb := h.msg m hmem
  have ne5 : ∀ {k : Nat} {c : Array Value} {t : TypeId}, t ≠ 5 → bk w k = some (.cells c t) → ¬ k = m.1 := by
    rintro k c t ht hk rfl
    have := hk.symm.trans hb
    injection this with this; injection this with _ h2; exact ht h2
  have hl : (L.modify i (fun p => (p.1, NetS.spoilt p.2 at_ mask))).length = L.length := by simp
  refine ⟨?_, ?_, ?_, ?_, h.sq, h.sr, ?_⟩
  · rw [bk_setCell_ne (p := ⟨m.1, at_, none⟩) (ne5 (by decide) h.hq)]; exact h.hq
  · rw [hl, modify_map_msg (fun s => spoilt_size s _ _)]
    refine ownsRow_fr h.own (T := fun k => k = m.1) ((Fr.refl (fun k => k = m.1) w).setCell (p := ⟨m.1, at_, none⟩) (fun _ => rfl) _) ?_
    intro k hk
    rcases h.own.2 with ⟨rfl, _⟩ | ⟨g, cap, cur, rfl, _, hh, _⟩
    · cases hk
    · injection hk with hk; subst hk
      exact ne5 (k := g) (by decide) hh
  · intro p hp
    obtain ⟨j, hj, hjp⟩ := List.mem_iff_getElem.1 hp
    rw [List.getElem_modify] at hjp
    have hj' : j < L.length := by omega
    by_cases hij : i = j
    · subst hij
      rw [if_pos rfl, hm] at hjp
      subst hjp
      rw [bk_setCell hb, cellsOf_spoilt _ _ _ h1 h2 hat]
    · rw [if_neg hij] at hjp
      subst hjp
      have hb' := h.msg L[j] (List.getElem_mem hj')
      rw [bk_setCell_ne (p := ⟨m.1, at_, none⟩) ?_]; exact hb'
      intro e
      have hn := h.nd
      exact hij (nodup_idx hn (by simpa using hi) (by simpa using hj') (by simp [hm, e]))
  · rw [modify_map_fst (fun s => NetS.spoilt s at_ mask)]; exact h.nd
  · intro p hp
    obtain ⟨j, hj, hjp⟩ := List.mem_iff_getElem.1 hp
    rw [List.getElem_modify] at hjp
    have hj' : j < L.length := by omega
    have := h.sm L[j] (List.getElem_mem hj')
    split at hjp
    · subst hjp; exact this
    · subst hjp; exact this

section
variable {w : World} {g mq mc : Nat} {nodes : Int} {E C : List Ent} {ck cc : Nat} {lab : Nat → Option (Int × Int)} {L : Int → Int → List (Nat × ByteArray)} {S : Nat → Prop}

set_option maxHeartbeats 400000 in
theorem spoil_wrong {p : Option Addr} {N : NetS} (h : NetP w p S N) (a b i at_ mask : Int) (hok : N.ok a b = false) :
    Calls Try.prog 23 #[.pointer p, .int .i64 a, .int .i64 b, .int .i64 i, .int .i64 at_, .int .i64 mask] w fun e w' => e = .returned (.int .i64 1) ∧ w' = w := by
  have HG := Lib.hid (of_wrong h a b hok)
  clear h hok
  go_enter Try.func23, Try.ntmps23
  go_wp2_with (first
    | (go_at_call 30; refine HG.out.mono ?_; rintro e w' ⟨rfl, rfl⟩)
    | (go_at_call 31; refine (get_nil _ _).mono ?_; rintro e w' ⟨rfl, rfl⟩))
  go_ret
  exact ⟨rfl, rfl⟩

set_option maxHeartbeats 400000 in
theorem spoil_mask (h : NIs w g mq mc nodes E C ck cc lab L) (hS : ∀ k, S k ↔ foot g mq mc lab k) (a b i at_ mask : Int) (hok : (netOf nodes C L).ok a b = true) (hm : mask < 1 ∨ 255 < mask) :
    Calls Try.prog 23 #[.pointer (some ⟨g, 0, none⟩), .int .i64 a, .int .i64 b, .int .i64 i, .int .i64 at_, .int .i64 mask] w fun e w' => e = .returned (.int .i64 1) ∧ NetTo w w' g S (netOf nodes C L) := by
  have HG := Lib.hid (of_good h a b hok)
  have HS := Lib.hid hS
  clear h hok hS
  by_cases hi : i < 0 ∨ ((L a b).length : Int) ≤ i
  · have HI := Lib.hid hi
    clear hi
    rcases hm with hm | hm
    · go_enter Try.func23, Try.ntmps23
      go_wp2_with (first
        | (go_at_call 30; refine HG.out.mono ?_; rintro e w1 ⟨q, E', ck', lab', rfl, hp⟩; obtain ⟨r1, r2, r3, r4, r5, A, c, r6, r7, hQ⟩ := hp.reads)
        | (go_at_call 31; refine (get_q_no hQ i HI.out).mono ?_; rintro e w2 ⟨rfl, rfl⟩))
      go_ret
      exact ⟨rfl, hp.same HS.out⟩
    · have hm' : ¬ mask < 1 := by omega
      go_enter Try.func23, Try.ntmps23
      go_wp2_with (first
        | (go_at_call 30; refine HG.out.mono ?_; rintro e w1 ⟨q, E', ck', lab', rfl, hp⟩; obtain ⟨r1, r2, r3, r4, r5, A, c, r6, r7, hQ⟩ := hp.reads)
        | (go_at_call 31; refine (get_q_no hQ i HI.out).mono ?_; rintro e w2 ⟨rfl, rfl⟩))
      go_ret
      exact ⟨rfl, hp.same HS.out⟩
  · obtain ⟨j, rfl⟩ := Int.eq_ofNat_of_zero_le (show 0 ≤ i by omega)
    have HI : Hid (j < (L a b).length) := show j < (L a b).length by omega
    clear hi
    rcases hm with hm | hm
    · go_enter Try.func23, Try.ntmps23
      go_wp2_with (first
        | (go_at_call 30; refine HG.out.mono ?_; rintro e w1 ⟨q, E', ck', lab', rfl, hp⟩; obtain ⟨r1, r2, r3, r4, r5, A, c, r6, r7, hQ⟩ := hp.reads)
        | (go_at_call 31; refine (get_q hQ j HI.out).mono ?_; rintro e w2 ⟨rfl, rfl⟩))
      go_ret
      exact ⟨rfl, hp.same HS.out⟩
    · have hm' : ¬ mask < 1 := by omega
      go_enter Try.func23, Try.ntmps23
      go_wp2_with (first
        | (go_at_call 30; refine HG.out.mono ?_; rintro e w1 ⟨q, E', ck', lab', rfl, hp⟩; obtain ⟨r1, r2, r3, r4, r5, A, c, r6, r7, hQ⟩ := hp.reads)
        | (go_at_call 31; refine (get_q hQ j HI.out).mono ?_; rintro e w2 ⟨rfl, rfl⟩))
      go_ret
      exact ⟨rfl, hp.same HS.out⟩

set_option maxHeartbeats 400000 in
theorem spoil_none (h : NIs w g mq mc nodes E C ck cc lab L) (hS : ∀ k, S k ↔ foot g mq mc lab k) (a b i at_ mask : Int) (hok : (netOf nodes C L).ok a b = true) (hm1 : 1 ≤ mask) (hm2 : mask ≤ 255) (hi : i < 0 ∨ ((L a b).length : Int) ≤ i) :
    Calls Try.prog 23 #[.pointer (some ⟨g, 0, none⟩), .int .i64 a, .int .i64 b, .int .i64 i, .int .i64 at_, .int .i64 mask] w fun e w' => e = .returned (.int .i64 11) ∧ NetTo w w' g S (netOf nodes C L) := by
  have HG := Lib.hid (of_good h a b hok)
  have HS := Lib.hid hS
  have HI := Lib.hid hi
  clear h hok hS hi
  go_enter Try.func23, Try.ntmps23
  go_wp2_with (first
    | (go_at_call 30; refine HG.out.mono ?_; rintro e w1 ⟨q, E', ck', lab', rfl, hp⟩; obtain ⟨r1, r2, r3, r4, r5, A, c, r6, r7, hQ⟩ := hp.reads)
    | (go_at_call 31; refine (get_q_no hQ i HI.out).mono ?_; rintro e w2 ⟨rfl, rfl⟩))
  go_ret
  exact ⟨rfl, hp.same HS.out⟩

set_option maxHeartbeats 400000 in
theorem spoil_far (h : NIs w g mq mc nodes E C ck cc lab L) (hS : ∀ k, S k ↔ foot g mq mc lab k) (a b : Int) (i : Nat) (at_ mask : Int) (hok : (netOf nodes C L).ok a b = true) (hm1 : 1 ≤ mask) (hm2 : mask ≤ 255) (hi : i < (L a b).length)
    (hat : at_ < 0 ∨ ((L a b)[i].2.size : Int) ≤ at_) :
    Calls Try.prog 23 #[.pointer (some ⟨g, 0, none⟩), .int .i64 a, .int .i64 b, .int .i64 i, .int .i64 at_, .int .i64 mask] w fun e w' => e = .returned (.int .i64 11) ∧ NetTo w w' g S (netOf nodes C L) := by
  have HG := Lib.hid (of_good h a b hok)
  have HS := Lib.hid hS
  have HI := Lib.hid hi
  clear h hok hS
  generalize hm : (L a b)[i] = m at hat
  have HM := Lib.hid hm
  clear hm hi
  by_cases h1 : at_ < 0
  · go_enter Try.func23, Try.ntmps23
    go_wp2_with (first
      | (go_at_call 30; refine HG.out.mono ?_; rintro e w1 ⟨q, E', ck', lab', rfl, hp⟩; obtain ⟨r1, r2, r3, r4, r5, A, c, r6, r7, hQ⟩ := hp.reads)
      | (go_at_call 31; refine (get_q_eq hQ i HI.out HM.out).mono ?_; rintro e w2 ⟨rfl, rfl⟩))
    go_ret
    exact ⟨rfl, hp.same HS.out⟩
  · have h2 : (m.2.size : Int) ≤ at_ := by omega
    go_enter Try.func23, Try.ntmps23
    go_wp2_with (first
      | (go_at_call 30; refine HG.out.mono ?_; rintro e w1 ⟨q, E', ck', lab', rfl, hp⟩; obtain ⟨r1, r2, r3, r4, r5, A, c, r6, r7, hQ⟩ := hp.reads)
      | (go_at_call 31; refine (get_q_eq hQ i HI.out HM.out).mono ?_; rintro e w2 ⟨rfl, rfl⟩))
    go_ret
    exact ⟨rfl, hp.same HS.out⟩

set_option maxHeartbeats 400000 in
theorem spoil_good (h : NIs w g mq mc nodes E C ck cc lab L) (hS : ∀ k, S k ↔ foot g mq mc lab k) (a b : Int) (i at_ : Nat) (mask : Int) (hok : (netOf nodes C L).ok a b = true) (hm1 : 1 ≤ mask) (hm2 : mask ≤ 255) (hi : i < (L a b).length)
    (hat : at_ < (L a b)[i].2.size) :
    Calls Try.prog 23 #[.pointer (some ⟨g, 0, none⟩), .int .i64 a, .int .i64 b, .int .i64 i, .int .i64 at_, .int .i64 mask] w fun e w' => e = .returned (.int .i64 0) ∧ NetTo w w' g S ((netOf nodes C L).setq a b (((L a b).modify i (fun p => (p.1, NetS.spoilt p.2 at_ mask))).map (·.2))) := by
  have HG := Lib.hid (of_good h a b hok)
  have HS := Lib.hid hS
  have HI := Lib.hid hi
  clear h hok hS
  generalize hm : (L a b)[i] = m at hat
  have HM := Lib.hid hm
  clear hm hi
  go_enter Try.func23, Try.ntmps23
  go_wp2_with (first
    | (go_at_call 30; refine HG.out.mono ?_; rintro e w1 ⟨q, E', ck', lab', rfl, hp⟩; obtain ⟨r1, r2, r3, r4, r5, A, c, r6, r7, hQ⟩ := hp.reads)
    | (go_at_call 31; refine (get_q_eq hQ i HI.out HM.out).mono ?_; rintro e w2 ⟨rfl, rfl⟩
       have hb := hQ.msg m (HM.out ▸ List.getElem_mem HI.out)
       have cb : w2.cell? ⟨m.1, at_, none⟩ = some (.int .u8 (m.2.data[at_]'hat).toNat) := by rw [cell?_bk hb]; simp [cellsOf, hat]
       have fb : w2.frozen? ⟨m.1, at_, none⟩ = false := frozen?_bk hb at_
       clear hb))
  go_ret
  exact ⟨rfl, hp.turned HS.out ((Fr.refl (fun k => lab' k = some (a, b)) w2).setCell (p := ⟨m.1, at_, none⟩) (fun _ => hQ.sm m (HM.out ▸ List.getElem_mem HI.out)) _) (fun _ hk => hk) (flipped hQ i at_ mask hm1 hm2 HI.out HM.out hat) (fun _ hk => .inl hk) (fun k hk => by
    have := hp.net.lt k (by rw [hk]; rfl)
    simpa [World.setCell] using this)⟩
end

theorem spoil_calls {w : World} {p : Option Addr} {S : Nat → Prop} {N : NetS} (h : NetP w p S N) (a b i at_ mask : Int) :
    Calls Try.prog 23 #[.pointer p, .int .i64 a, .int .i64 b, .int .i64 i, .int .i64 at_, .int .i64 mask] w fun e w' => e = .returned (.int .i64 (N.spoil a b i at_ mask).2) ∧ NetToP w w' p S (N.spoil a b i at_ mask).1 := by
  unfold NetS.spoil
  by_cases hok : N.ok a b = false
  · rw [if_pos (.inl hok)]
    refine (spoil_wrong h a b i at_ mask hok).mono ?_
    rintro e w' ⟨rfl, rfl⟩
    exact ⟨rfl, NetToP.same h⟩
  · have hok' : N.ok a b = true := by simpa using hok
    obtain ⟨g, rfl, mq, mc, nodes, E, C, ck, cc, lab, L, h1, h2, rfl⟩ := h.ok hok'
    by_cases hm : mask < 1 ∨ 255 < mask
    · rw [if_pos (.inr hm)]
      exact (spoil_mask h1 h2 a b i at_ mask hok' hm).mono fun e w' hh => ⟨hh.1, NetTo.p hh.2⟩
    · rw [if_neg (by rintro (hh | hh); exact hok hh; exact hm hh)]
      by_cases hh : (netOf nodes C L).has a b i = false
      · rw [if_pos (.inl hh)]
        exact (spoil_none h1 h2 a b i at_ mask hok' (by omega) (by omega) (has_no hh)).mono fun e w' hh => ⟨hh.1, NetTo.p hh.2⟩
      · obtain ⟨j, rfl, hj⟩ := has_yes (by simpa using hh)
        rw [msg_netOf _ _ _ _ _ _ hj]
        by_cases hat : at_ < 0 ∨ ((L a b)[j].2.size : Int) ≤ at_
        · rw [if_pos (.inr hat)]
          exact (spoil_far h1 h2 a b j at_ mask hok' (by omega) (by omega) hj hat).mono fun e w' hh => ⟨hh.1, NetTo.p hh.2⟩
        · rw [if_neg (by rintro (h3 | h3); exact hh h3; exact hat h3)]
          obtain ⟨k, rfl⟩ := Int.eq_ofNat_of_zero_le (show 0 ≤ at_ by omega)
          have := spoil_good h1 h2 a b j k mask hok' (by omega) (by omega) hj (by omega)
          rw [modify_map_snd (fun s => NetS.spoilt s k mask)] at this
          have hq : (netOf nodes C L).q a b = (L a b).map (·.2) := rfl
          rw [hq, Int.toNat_natCast]
          exact this.mono fun e w' hh => ⟨hh.1, NetTo.p hh.2⟩
end Go.Proofs.Ytamjclpopkfhmaa
