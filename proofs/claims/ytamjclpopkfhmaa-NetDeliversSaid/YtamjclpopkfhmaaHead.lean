/-
What a law knows of its networks; the walk of head.
-/
import Derived.Test.YtamjclpopkfhmaaWalk9
set_option linter.unusedVariables false
set_option linter.unusedSimpArgs false
namespace Go.Proofs.Ytamjclpopkfhmaa
open Go.RowKit Go.NetKit

theorem NetP.fr {w w' : World} {T S : Nat → Prop} {p : Option Addr} {N : NetS} (h : NetP w p S N) (hf : Fr T w w') (hn : ∀ k, S k → ¬ T k) : NetP w' p S N := by
  rcases h with h | ⟨g, rfl, h⟩
  · exact .inl h
  · exact .inr ⟨g, rfl, h.fr hf hn⟩
theorem NetP.lt {w : World} {S : Nat → Prop} {p : Option Addr} {N : NetS} (h : NetP w p S N) : ∀ k, S k → k < w.heap.size := by
  rcases h with ⟨_, _, h⟩ | ⟨g, rfl, h⟩
  · exact fun k hk => absurd hk (h k)
  · exact h.lt
theorem NetP.none (w : World) : NetP w none (fun _ => False) (NetS.new 0) := .inl ⟨rfl, rfl, fun _ h => h⟩

/-- Since w0 nothing old has turned; p and q are networks of what is new, apart. -/
def Two (w0 w : World) (p q : Option Addr) (N M : NetS) : Prop :=
  ∃ S T, NetP w p S N ∧ NetP w q T M ∧ (∀ k, S k → ¬ T k) ∧ (∀ k, S k → w0.heap.size ≤ k) ∧ (∀ k, T k → w0.heap.size ≤ k) ∧ Fr (fun _ => False) w0 w
theorem Two.symm {w0 w : World} {p q : Option Addr} {N M : NetS} (h : Two w0 w p q N M) : Two w0 w q p M N := by
  obtain ⟨S, T, h1, h2, h3, h4, h5, h6⟩ := h
  exact ⟨T, S, h2, h1, fun k a b => h3 k b a, h5, h4, h6⟩
theorem Two.fr {w0 w : World} {p q : Option Addr} {N M : NetS} (h : Two w0 w p q N M) : Fr (fun _ => False) w0 w := by
  obtain ⟨S, T, h1, h2, h3, h4, h5, h6⟩ := h; exact h6
theorem Two.start (w0 : World) : Two w0 w0 none none (NetS.new 0) (NetS.new 0) := ⟨_, _, NetP.none w0, NetP.none w0, fun _ h _ => h, fun _ h => h.elim, fun _ h => h.elim, Fr.refl _ _⟩
/-- What is made or drawn beside. -/
theorem Two.beside {w0 w w' : World} {p q : Option Addr} {N M : NetS} (h : Two w0 w p q N M) (hf : Fr (fun _ => False) w w') : Two w0 w' p q N M := by
  obtain ⟨S, T, h1, h2, h3, h4, h5, h6⟩ := h
  exact ⟨S, T, h1.fr hf (fun _ _ h => h), h2.fr hf (fun _ _ h => h), h3, h4, h5, h6.trans hf⟩
/-- An operation's contract, with what the law knows. -/
theorem Two.step {w0 w : World} {p q : Option Addr} {N M : NetS} (h : Two w0 w p q N M) {f : FuncId} {args : Array Value} {v : Value} {N' : NetS}
    (hc : ∀ S, NetP w p S N → Calls Try.prog f args w fun e w' => e = .returned v ∧ NetToP w w' p S N') :
    Calls Try.prog f args w fun e w' => e = .returned v ∧ Two w0 w' p q N' M := by
  obtain ⟨S, T, h1, h2, h3, h4, h5, h6⟩ := h
  refine (hc S h1).mono ?_
  rintro e w' ⟨rfl, S', g1, g2, g3⟩
  refine ⟨rfl, S', T, g1, h2.fr g2 (fun k hk hs => h3 k hs hk), ?_, ?_, h5, h6.trans' g2 ?_⟩
  · intro k hk ht
    rcases g3 k hk with h | h
    · exact h3 k h ht
    · have := h2.lt k ht; omega
  · intro k hk
    rcases g3 k hk with h | h
    · exact h4 k h
    · have := h6.size; omega
  · intro k hk hs
    have := h4 k hs; omega
/-- New, where the second network isn't there yet. -/
theorem Two.made {w0 w : World} {q : Option Addr} {M : NetS} (h : Two w0 w none q (NetS.new 0) M) (n : Int) (h1 : 1 ≤ n) (h2 : n ≤ 8) :
    Calls Try.prog 11 #[.int .i64 n] w fun e w' => ∃ g, e = .returned (.tuple #[.pointer (some ⟨g, 0, none⟩), .int .i64 0]) ∧ Two w0 w' (some ⟨g, 0, none⟩) q (NetS.new n) M := by
  refine (new_raw n h1 h2 w).mono ?_
  rintro e w' ⟨rfl, rfl⟩
  obtain ⟨S', g1, g2, g3⟩ := new_net n h2 w
  obtain ⟨S, T, k1, k2, k3, k4, k5, k6⟩ := h
  refine ⟨_, rfl, S', T, .inr ⟨_, rfl, g1⟩, k2.fr g2 (fun _ _ h => h), ?_, ?_, k5, k6.trans g2⟩
  · intro k hk ht
    rcases g3 k hk with h | h
    · exact h
    · have := k2.lt k ht; omega
  · intro k hk
    rcases g3 k hk with h | h
    · exact h.elim
    · have := k6.size; omega


section
variable {w0 w : World} {p q : Option Addr} {N M : NetS}
theorem Two.send (h : Two w0 w p q N M) (a b : Int) (s : ByteArray) (r : Int) (hr : (N.send a b s).2 = r) :
    Calls Try.prog 15 #[.pointer p, .int .i64 a, .int .i64 b, .string s] w fun e w' => e = .returned (.int .i64 r) ∧ Two w0 w' p q (N.send a b s).1 M :=
  h.step fun _ hS => hr ▸ send_calls hS a b s
theorem Two.deliver (h : Two w0 w p q N M) (a b i : Int) (again : Bool) (s : ByteArray) (r : Int) (hr : (N.deliver a b i again).2 = (s, r)) :
    Calls Try.prog 22 #[.pointer p, .int .i64 a, .int .i64 b, .int .i64 i, .bool again] w fun e w' => e = .returned (.tuple #[.string s, .int .i64 r]) ∧ Two w0 w' p q (N.deliver a b i again).1 M :=
  h.step fun _ hS => by
    have := deliver_calls hS a b i again
    rw [hr] at this; exact this
theorem Two.lose (h : Two w0 w p q N M) (a b i r : Int) (hr : (N.lose a b i).2 = r) :
    Calls Try.prog 16 #[.pointer p, .int .i64 a, .int .i64 b, .int .i64 i] w fun e w' => e = .returned (.int .i64 r) ∧ Two w0 w' p q (N.lose a b i).1 M :=
  h.step fun _ hS => hr ▸ lose_calls hS a b i
theorem Two.spoil (h : Two w0 w p q N M) (a b i at_ mask r : Int) (hr : (N.spoil a b i at_ mask).2 = r) :
    Calls Try.prog 23 #[.pointer p, .int .i64 a, .int .i64 b, .int .i64 i, .int .i64 at_, .int .i64 mask] w fun e w' => e = .returned (.int .i64 r) ∧ Two w0 w' p q (N.spoil a b i at_ mask).1 M :=
  h.step fun _ hS => hr ▸ spoil_calls hS a b i at_ mask
theorem Two.cut (h : Two w0 w p q N M) (a b : Int) (off : Bool) (r : Int) (hr : (N.cutS a b off).2 = r) :
    Calls Try.prog 21 #[.pointer p, .int .i64 a, .int .i64 b, .bool off] w fun e w' => e = .returned (.int .i64 r) ∧ Two w0 w' p q (N.cutS a b off).1 M :=
  h.step fun _ hS => hr ▸ cut_calls hS a b off
theorem Two.count (h : Two w0 w p q N M) (a b r : Int) (hr : N.count a b = r) :
    Calls Try.prog 17 #[.pointer p, .int .i64 a, .int .i64 b] w fun e w' => e = .returned (.int .i64 r) ∧ Two w0 w' p q N M :=
  h.step fun _ hS => hr ▸ count_calls hS a b
end

def tA : ByteArray := ⟨#[97]⟩
def tB : ByteArray := ⟨#[98]⟩
def hd0 : NetS := NetS.new 2
def hd1 : NetS := (hd0.send 0 1 tA).1
def hd2 : NetS := (hd1.send 0 1 tB).1
def hd3 : NetS := (hd2.deliver 0 1 1 false).1
def hd4 : NetS := (hd3.deliver 0 1 0 true).1
def hd5 : NetS := (hd4.cutS 1 0 true).1
def hd6 : NetS := (hd5.deliver 0 1 0 false).1
def hd7 : NetS := (hd6.lose 0 1 0).1
def hd8 : NetS := (hd7.cutS 0 1 false).1
def hd9 : NetS := (hd8.send 0 1 tA).1
def hd10 : NetS := (hd9.spoil 0 1 0 0 3).1
def hd11 : NetS := (hd10.deliver 0 1 0 false).1

set_option maxHeartbeats 2000000 in
set_option maxRecDepth 100000 in
theorem head_calls (w : World) : Calls Try.prog 9 #[] w fun e w' => e = .returned (.bool true) ∧ Fr (fun _ => False) w w' := by
  have HT := Lib.hid (Two.start w)
  go_enter Try.func9, Try.ntmps9
  go_wp2_with fail
  refine (HT.out.made 2 (by omega) (by omega)).mono ?_
  rintro e w1 ⟨g, rfl, (t1 : Two w w1 _ none hd0 _)⟩
  have H1 := Lib.hid t1; clear t1
  go_wp2_with fail
  refine (H1.out.send 0 1 tA 0 (by decide +kernel)).mono ?_
  rintro e w2 ⟨rfl, (t2 : Two w w2 _ none hd1 _)⟩
  have H2 := Lib.hid t2; clear t2
  go_wp2_with fail
  refine (H2.out.send 0 1 tB 0 (by decide +kernel)).mono ?_
  rintro e w3 ⟨rfl, (t3 : Two w w3 _ none hd2 _)⟩
  have H3 := Lib.hid t3; clear t3
  go_wp2_with fail
  refine (H3.out.deliver 0 1 1 false tB 0 (by decide +kernel)).mono ?_
  rintro e w4 ⟨rfl, (t4 : Two w w4 _ none hd3 _)⟩
  have H4 := Lib.hid t4; clear t4
  go_wp2_with fail
  refine (H4.out.deliver 0 1 0 true tA 0 (by decide +kernel)).mono ?_
  rintro e w5 ⟨rfl, (t5 : Two w w5 _ none hd4 _)⟩
  have H5 := Lib.hid t5; clear t5
  go_wp2_with fail
  refine (H5.out.count 0 1 1 (by decide +kernel)).mono ?_
  rintro e w6 ⟨rfl, t6⟩
  have H6 := Lib.hid t6; clear t6
  go_wp2_with fail
  refine (H6.out.cut 1 0 true 0 (by decide +kernel)).mono ?_
  rintro e w7 ⟨rfl, (t7 : Two w w7 _ none hd5 _)⟩
  have H7 := Lib.hid t7; clear t7
  go_wp2_with fail
  refine (H7.out.deliver 0 1 0 false ByteArray.empty 20 (by decide +kernel)).mono ?_
  rintro e w8 ⟨rfl, (t8 : Two w w8 _ none hd6 _)⟩
  have H8 := Lib.hid t8; clear t8
  go_wp2_with fail
  refine (H8.out.lose 0 1 0 0 (by decide +kernel)).mono ?_
  rintro e w9 ⟨rfl, (t9 : Two w w9 _ none hd7 _)⟩
  have H9 := Lib.hid t9; clear t9
  go_wp2_with fail
  refine (H9.out.cut 0 1 false 0 (by decide +kernel)).mono ?_
  rintro e w10 ⟨rfl, (t10 : Two w w10 _ none hd8 _)⟩
  have H10 := Lib.hid t10; clear t10
  go_wp2_with fail
  refine (H10.out.send 0 1 tA 0 (by decide +kernel)).mono ?_
  rintro e w11 ⟨rfl, (t11 : Two w w11 _ none hd9 _)⟩
  have H11 := Lib.hid t11; clear t11
  go_wp2_with fail
  refine (H11.out.spoil 0 1 0 0 3 0 (by decide +kernel)).mono ?_
  rintro e w12 ⟨rfl, (t12 : Two w w12 _ none hd10 _)⟩
  have H12 := Lib.hid t12; clear t12
  go_wp2_with fail
  refine (H12.out.deliver 0 1 0 false tB 0 (by decide +kernel)).mono ?_
  rintro e w13 ⟨rfl, (t13 : Two w w13 _ none hd11 _)⟩
  have H13 := Lib.hid t13; clear t13
  go_wp2_with fail
  refine (new_bad 9 (by omega) w13).mono ?_
  rintro e w14 ⟨rfl, rfl⟩
  have b1 : tB.toList = [98] := by decide +kernel
  have b2 : tA.toList = [97] := by decide +kernel
  go_wp2_with fail
  refine (H13.out.send 0 0 tA 1 (by decide +kernel)).mono ?_
  rintro e w15 ⟨rfl, t15⟩
  have H15 := Lib.hid t15.fr; clear t15
  go_wp2_with fail
  go_ret
  exact ⟨rfl, H15.out⟩
end Go.Proofs.Ytamjclpopkfhmaa
