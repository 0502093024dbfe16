/-
NetRefuses: the plain law.
-/
import Derived.Test.YtamjclpopkfhmaaCuts
import Derived.Test.YtamjclpopkfhmaaOpen
set_option linter.unusedVariables false
set_option linter.unusedSimpArgs false
namespace Go.Proofs.Ytamjclpopkfhmaa
open Go.RowKit Go.NetKit

/-- An operation with an error changes nothing. -/
theorem run_err (N : NetS) (o : OpS) (h : (o.run N).2.2.2 ≠ 0) : (o.run N).1 = N := by
  revert h
  unfold OpS.run NetS.send NetS.deliver NetS.lose NetS.spoil NetS.cutS
  repeat' split
  all_goals first
    | exact fun _ => rfl
    | exact fun h => absurd rfl h

/-- What is known of a message that was spoilt. -/
structure Spoilt (N : NetS) (o : OpS) : Prop where
  ok : N.ok o.a o.b = true
  m1 : 1 ≤ o.mask
  m2 : o.mask ≤ 255
  i0 : 0 ≤ o.idx
  i1 : o.idx < (N.q o.a o.b).length
  a0 : 0 ≤ o.at_
  a1 : o.at_ < (N.msg o.a o.b o.idx).size
theorem spoil_some {N : NetS} {o : OpS} (hk : o.kind = 3) (h : (o.run N).2.2.2 = 0) : Spoilt N o ∧ o.run N = (N.setq o.a o.b ((N.q o.a o.b).modify o.idx.toNat (NetS.spoilt · o.at_ o.mask)), ByteArray.empty, 0, 0) := by
  have h0 : ¬ o.kind = 0 := by omega
  have h1 : ¬ o.kind = 1 := by omega
  have h2 : ¬ o.kind = 2 := by omega
  unfold OpS.run at h ⊢
  rw [if_neg h0, if_neg h1, if_neg h2, if_pos hk] at h ⊢
  unfold NetS.spoil at h ⊢
  by_cases c1 : N.ok o.a o.b = false ∨ o.mask < 1 ∨ 255 < o.mask
  · rw [if_pos c1] at h; exact absurd h (by simp)
  · rw [if_neg c1] at h ⊢
    by_cases c2 : N.has o.a o.b o.idx = false ∨ o.at_ < 0 ∨ ((N.msg o.a o.b o.idx).size : Int) ≤ o.at_
    · rw [if_pos c2] at h; exact absurd h (by simp)
    · rw [if_neg c2]
      have hh : N.has o.a o.b o.idx = true := by
        cases hx : N.has o.a o.b o.idx
        · exact absurd (.inl hx) c2
        · rfl
      have hh2 := of_decide_eq_true hh
      refine ⟨⟨?_, by omega, by omega, hh2.1, hh2.2, by omega, by omega⟩, rfl⟩
      cases hx : N.ok o.a o.b
      · exact absurd (.inl hx) c1
      · rfl

theorem flip_flip (c : UInt8) (mask : Int) : NetS.flip (NetS.flip c mask) mask = c := by
  unfold NetS.flip
  rw [UInt8.xor_assoc, UInt8.xor_self, UInt8.xor_zero]
theorem spoilt_spoilt (s : ByteArray) (at_ mask : Int) : NetS.spoilt (NetS.spoilt s at_ mask) at_ mask = s := by
  unfold NetS.spoilt
  have : (s.data.modify at_.toNat (NetS.flip · mask)).modify at_.toNat (NetS.flip · mask) = s.data := by
    apply Array.ext_getElem?
    intro i
    rw [Array.getElem?_modify, Array.getElem?_modify]
    by_cases h : at_.toNat = i
    · rw [if_pos h, if_pos h]
      cases s.data[i]? with
      | none => rfl
      | some c => simp [flip_flip]
    · rw [if_neg h, if_neg h]
  rw [this]

/-- The two networks behind the first spoiling, their lines whole. -/
theorem spoilt_msg {N : NetS} {o : OpS} (h : Spoilt N o) : ((N.setq o.a o.b ((N.q o.a o.b).modify o.idx.toNat (NetS.spoilt · o.at_ o.mask))).setc o.a o.b false).deliver o.a o.b o.idx true =
    ((N.setq o.a o.b ((N.q o.a o.b).modify o.idx.toNat (NetS.spoilt · o.at_ o.mask))).setc o.a o.b false, NetS.spoilt (N.msg o.a o.b o.idx) o.at_ o.mask, 0) := by
  obtain ⟨i, hi⟩ := Int.eq_ofNat_of_zero_le h.i0
  have hi1 := h.i1
  rw [hi] at hi1
  have hlt : i < (N.q o.a o.b).length := by omega
  unfold NetS.deliver
  have e1 : ((N.setq o.a o.b ((N.q o.a o.b).modify o.idx.toNat (NetS.spoilt · o.at_ o.mask))).setc o.a o.b false).ok o.a o.b = true := h.ok
  have hq : ((N.setq o.a o.b ((N.q o.a o.b).modify o.idx.toNat (NetS.spoilt · o.at_ o.mask))).setc o.a o.b false).q o.a o.b = (N.q o.a o.b).modify i (NetS.spoilt · o.at_ o.mask) := by
    simp [NetS.setc, NetS.setq, hi]
  have e2 : ((N.setq o.a o.b ((N.q o.a o.b).modify o.idx.toNat (NetS.spoilt · o.at_ o.mask))).setc o.a o.b false).cut o.a o.b = false := by simp [NetS.setc]
  have e3 : ((N.setq o.a o.b ((N.q o.a o.b).modify o.idx.toNat (NetS.spoilt · o.at_ o.mask))).setc o.a o.b false).has o.a o.b o.idx = true := by
    unfold NetS.has; rw [hq, hi]; simp; omega
  have e4 : ((N.setq o.a o.b ((N.q o.a o.b).modify o.idx.toNat (NetS.spoilt · o.at_ o.mask))).setc o.a o.b false).msg o.a o.b o.idx = NetS.spoilt (N.msg o.a o.b o.idx) o.at_ o.mask := by
    unfold NetS.msg; rw [hq, hi, Int.toNat_natCast, List.getD_eq_getElem?_getD, List.getD_eq_getElem?_getD, List.getElem?_modify, List.getElem?_eq_getElem hlt]; simp
  rw [e1, e2, e3, e4]
  simp
theorem whole_msg {N : NetS} {o : OpS} (h : Spoilt N o) : (N.setc o.a o.b false).deliver o.a o.b o.idx true = (N.setc o.a o.b false, N.msg o.a o.b o.idx, 0) := by
  unfold NetS.deliver
  have e1 : (N.setc o.a o.b false).ok o.a o.b = true := h.ok
  have e2 : (N.setc o.a o.b false).cut o.a o.b = false := by simp [NetS.setc]
  have e3 : (N.setc o.a o.b false).has o.a o.b o.idx = true := by
    unfold NetS.has; exact decide_eq_true ⟨h.i0, h.i1⟩
  have e4 : (N.setc o.a o.b false).msg o.a o.b o.idx = N.msg o.a o.b o.idx := rfl
  rw [e1, e2, e3, e4]
  simp
/-- Spoilt once more, all queues are as they were. -/
theorem spoil_again {N : NetS} {o : OpS} (h : Spoilt N o) (hk : o.kind = 3) :
    ∃ N3, o.run ((N.setq o.a o.b ((N.q o.a o.b).modify o.idx.toNat (NetS.spoilt · o.at_ o.mask))).setc o.a o.b false) = (N3, ByteArray.empty, 0, 0) ∧ N3.q = N.q ∧ N3.nodes = N.nodes := by
  have h0 : ¬ o.kind = 0 := by omega
  have h1 : ¬ o.kind = 1 := by omega
  have h2 : ¬ o.kind = 2 := by omega
  obtain ⟨i, hi⟩ := Int.eq_ofNat_of_zero_le h.i0
  have hi1 := h.i1
  rw [hi] at hi1
  have hlt : i < (N.q o.a o.b).length := by omega
  have hq : ((N.setq o.a o.b ((N.q o.a o.b).modify o.idx.toNat (NetS.spoilt · o.at_ o.mask))).setc o.a o.b false).q o.a o.b = (N.q o.a o.b).modify i (NetS.spoilt · o.at_ o.mask) := by
    simp [NetS.setc, NetS.setq, hi]
  have e1 : ((N.setq o.a o.b ((N.q o.a o.b).modify o.idx.toNat (NetS.spoilt · o.at_ o.mask))).setc o.a o.b false).ok o.a o.b = true := h.ok
  have e3 : ((N.setq o.a o.b ((N.q o.a o.b).modify o.idx.toNat (NetS.spoilt · o.at_ o.mask))).setc o.a o.b false).has o.a o.b o.idx = true := by
    unfold NetS.has; rw [hq, hi]; simp; omega
  have e4 : ((N.setq o.a o.b ((N.q o.a o.b).modify o.idx.toNat (NetS.spoilt · o.at_ o.mask))).setc o.a o.b false).msg o.a o.b o.idx = NetS.spoilt (N.msg o.a o.b o.idx) o.at_ o.mask := by
    unfold NetS.msg; rw [hq, hi, Int.toNat_natCast, List.getD_eq_getElem?_getD, List.getD_eq_getElem?_getD, List.getElem?_modify, List.getElem?_eq_getElem hlt]; simp
  refine ⟨((N.setq o.a o.b ((N.q o.a o.b).modify o.idx.toNat (NetS.spoilt · o.at_ o.mask))).setc o.a o.b false).setq o.a o.b (((N.q o.a o.b).modify i (NetS.spoilt · o.at_ o.mask)).modify i (NetS.spoilt · o.at_ o.mask)), ?_, ?_, rfl⟩
  · unfold OpS.run
    rw [if_neg h0, if_neg h1, if_neg h2, if_pos hk]
    unfold NetS.spoil
    have a1 := h.a1
    have sz : ∀ s : ByteArray, (NetS.spoilt s o.at_ o.mask).size = s.size := fun s => spoilt_size s _ _
    rw [e1, e3, e4, hq, sz, hi, Int.toNat_natCast]
    have c1 : ¬ ((true : Bool) = false ∨ o.mask < 1 ∨ 255 < o.mask) := by
      have := h.m1; have := h.m2
      rintro (hx | hx | hx)
      · cases hx
      · omega
      · omega
    have c2 : ¬ ((true : Bool) = false ∨ o.at_ < 0 ∨ ((N.msg o.a o.b o.idx).size : Int) ≤ o.at_) := by
      have := h.a0
      rintro (hx | hx | hx)
      · cases hx
      · omega
      · omega
    rw [if_neg c1]
    rw [hi] at c2
    rw [if_neg c2]
  · funext x y
    simp only [NetS.setq, NetS.setc]
    by_cases hxy : x = o.a ∧ y = o.b
    · rw [if_pos hxy, hxy.1, hxy.2]
      apply List.ext_getElem?
      intro k
      rw [List.getElem?_modify, List.getElem?_modify]
      by_cases hik : i = k
      · simp only [if_pos hik]
        cases (N.q o.a o.b)[k]? with
        | none => rfl
        | some s => simp [spoilt_spoilt]
      · simp only [if_neg hik]
        cases (N.q o.a o.b)[k]? <;> rfl
    · rw [if_neg hxy, if_neg hxy]

/-- A byte of the spoilt text beside the same byte of the text. -/
theorem spoilt_byte (s : ByteArray) (at_ mask : Int) (h1 : 1 ≤ mask) (h2 : mask ≤ 255) (h0 : 0 ≤ at_) (i : Nat) (hi : i < s.data.size) (hi' : i < (NetS.spoilt s at_ mask).data.size) :
    bits .xor .u8 (((NetS.spoilt s at_ mask).data[i]).toNat : Int) ((s.data[i]).toNat : Int) = if (i : Int) = at_ then mask else 0 := by
  have b1 := ((NetS.spoilt s at_ mask).data[i]).toNat_lt
  have b2 := (s.data[i]).toNat_lt
  rw [u8_xor _ _ (by omega) (by omega) (by omega) (by omega), Int.toNat_natCast, Int.toNat_natCast]
  have hm : (NetS.spoilt s at_ mask).data[i] = if at_.toNat = i then NetS.flip s.data[i] mask else s.data[i] := by
    have hx : (NetS.spoilt s at_ mask).data = s.data.modify at_.toNat (NetS.flip · mask) := rfl
    simp only [hx, Array.getElem_modify]
  rw [hm]
  by_cases h : at_.toNat = i
  · rw [if_pos h, if_pos (by omega)]
    unfold NetS.flip
    rw [← UInt8.toNat_xor, UInt8.xor_comm, ← UInt8.xor_assoc, UInt8.xor_self, UInt8.zero_xor, UInt8.toNat_ofNat', Nat.mod_eq_of_lt (by omega)]
    omega
  · rw [if_neg h, if_neg (by omega), Nat.xor_self]; rfl
end Go.Proofs.Ytamjclpopkfhmaa
