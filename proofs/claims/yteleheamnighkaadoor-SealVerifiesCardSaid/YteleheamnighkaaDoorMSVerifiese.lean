/-
What RowSVerifies leans on, part 5: the texts of this seat, merged.
-/
import Derived.Test.YteleheamnighkaaDoorMSVerifiesd
import Derived.Test.YteleheamnighkaaDoorRows
import Derived.Test.YteleheamnighkaaDoorTie
import Derived.Test.YteleheamnighkaaDoorCards
import Derived.WalkKit
import Derived.ProofKit
import Derived.OpenShut
import Derived.ShutString
import Derived.ChangeOld
import Derived.Below
import Derived.SizedLaws
import Derived.Lay
import Derived.LaidMore
import Derived.Lib.LaidTab
import Derived.Lib.LaidU8
import Derived.Lib.SmallJoins
import Derived.SliceStrings
import Derived.SevenTiedAt
section
namespace Go.Proofs.YteleheamnighkaaDoor.PSVerifies
open Go.RowKit Go.Proofs.YteleheamnighkaaDoorW.PrintWords Go.Proofs.YteleheamnighkaaDoorW.PrintLast Go.Proofs.YteleheamnighkaaDoorW.PrintMore
attribute [local go_sem] max2_int min2_int max_two min_two max_three min_three max_four min_four   -- for this text's walks alone
set_option linter.unusedVariables false
set_option linter.unusedSimpArgs false
mutual
def planispherelaw02_SealVerifies.j0 : Nat → ByteArray → Bool → ByteArray → Bool → Int → List ByteArray → List ByteArray → Int → List ByteArray → List ByteArray → Option (Bool)
  | 0, _, _, _, _, _, _, _, _, _, _ => none
  | k + 1, x3, x9, x12, x106, x117000, x117001, x117002, x135000, x135001, x135002 => if x106 = true then (some false) else (planispherelaw02_SealVerifies.l0 k x3 x9 x12 0 x117000 x117001 x117002 x135000 x135001 x135002)
def planispherelaw02_SealVerifies.l0 : Nat → ByteArray → Bool → ByteArray → Int → Int → List ByteArray → List ByteArray → Int → List ByteArray → List ByteArray → Option (Bool)
  | 0, _, _, _, _, _, _, _, _, _, _ => none
  | k + 1, x3, x9, x12, x20, x117000, x117001, x117002, x135000, x135001, x135002 => if x20 < (x117001.length : Int) then (if 0 ≤ x20 then ((digest_Is.f (rdOf ByteArray.empty x117001 x20)).bind fun t137 => (if t137 = true then (planispherelaw02_SealVerifies.l0 k x3 x9 x12 (wrap64 (x20 + 1)) x117000 x117001 x117002 x135000 x135001 x135002) else (some false))) else (none)) else (planispherelaw02_SealVerifies.l1 k x3 x9 x12 0 x117000 x117001 x117002 x135000 x135001 x135002)
def planispherelaw02_SealVerifies.l1 : Nat → ByteArray → Bool → ByteArray → Int → Int → List ByteArray → List ByteArray → Int → List ByteArray → List ByteArray → Option (Bool)
  | 0, _, _, _, _, _, _, _, _, _, _ => none
  | k + 1, x3, x9, x12, x21, x117000, x117001, x117002, x135000, x135001, x135002 => if x21 < (x117002.length : Int) then (if 0 ≤ x21 then ((digest_Is.f (rdOf ByteArray.empty x117002 x21)).bind fun t139 => (if t139 = true then (planispherelaw02_SealVerifies.l1 k x3 x9 x12 (wrap64 (x21 + 1)) x117000 x117001 x117002 x135000 x135001 x135002) else (some false))) else (none)) else (if x9 = true then ((digest_Is.f x12).bind fun t140 => (if t140 = true then ((planisphereref01_Same.f x135001 x117001).bind fun t141 => (if t141 = true then ((seal_Verify.f x12 x3 x117000 x117001 x117002).bind fun t142 => (some t142)) else (some false))) else (some false))) else (some false))
end
def planispherelaw02_SealVerifies.f (k : Nat) (a0 : ByteArray) (a1 : Int) (a2 : Int) (a3 : ByteArray) : Option (Bool) := (planispherelaw02_head.f).bind fun t101 => ((planispherelaw02_short.f (([a0, a3] : List ByteArray))).bind fun t105 => (if t105 = true then (if 0 ≤ (Int.tmod (wrap64 (a1)) 4) then (if (shl .i64 1 (Int.tmod (wrap64 (a1)) 4)) = 0 then (none) else ((seal_Public.f a0 (Int.tmod (wrap64 (a1)) 4)).bind fun bt106 => ((seal_Sign.f a0 (Int.tmod (wrap64 (a1)) 4) (Int.tmod (wrap64 (a2)) (shl .i64 1 (Int.tmod (wrap64 (a1)) 4))) a3).bind fun bt108 => ((seal_Sign.f a0 (Int.tmod (wrap64 (a1)) 4) (Int.tmod (wrap64 (a2)) (shl .i64 1 (Int.tmod (wrap64 (a1)) 4))) a3).bind fun bt117 => ((seal_Sign.f a0 (wrap64 ((Int.tmod (wrap64 (a1)) 4) + 1)) (Int.tmod (wrap64 (a2)) (shl .i64 1 (Int.tmod (wrap64 (a1)) 4))) a3).bind fun bt126 => (if bt106.2 = 0 then (if bt108.2.2.2 = 0 then (if bt117.2.2.2 = 0 then (if bt126.2.2.2 = 0 then (if bt108.1 = (Int.tmod (wrap64 (a2)) (shl .i64 1 (Int.tmod (wrap64 (a1)) 4))) then (if (bt108.2.1.length : Int) = 18 then (if (bt108.2.2.1.length : Int) = (Int.tmod (wrap64 (a1)) 4) then ((planisphereref02_Same.f bt108.1 bt108.2.1 bt108.2.2.1 bt117.1 bt117.2.1 bt117.2.2.1).bind fun t135 => (planispherelaw02_SealVerifies.j0 k a3 t101 bt106.1 (!t135) bt108.1 bt108.2.1 bt108.2.2.1 bt126.1 bt126.2.1 bt126.2.2.1)) else (planispherelaw02_SealVerifies.j0 k a3 t101 bt106.1 true bt108.1 bt108.2.1 bt108.2.2.1 bt126.1 bt126.2.1 bt126.2.2.1)) else (planispherelaw02_SealVerifies.j0 k a3 t101 bt106.1 true bt108.1 bt108.2.1 bt108.2.2.1 bt126.1 bt126.2.1 bt126.2.2.1)) else (planispherelaw02_SealVerifies.j0 k a3 t101 bt106.1 true bt108.1 bt108.2.1 bt108.2.2.1 bt126.1 bt126.2.1 bt126.2.2.1)) else (planispherelaw02_SealVerifies.j0 k a3 t101 bt106.1 true bt108.1 bt108.2.1 bt108.2.2.1 bt126.1 bt126.2.1 bt126.2.2.1)) else (planispherelaw02_SealVerifies.j0 k a3 t101 bt106.1 true bt108.1 bt108.2.1 bt108.2.2.1 bt126.1 bt126.2.1 bt126.2.2.1)) else (planispherelaw02_SealVerifies.j0 k a3 t101 bt106.1 true bt108.1 bt108.2.1 bt108.2.2.1 bt126.1 bt126.2.1 bt126.2.2.1)) else (planispherelaw02_SealVerifies.j0 k a3 t101 bt106.1 true bt108.1 bt108.2.1 bt108.2.2.1 bt126.1 bt126.2.1 bt126.2.2.1))))))) else (none)) else (some t101)))
set_option maxHeartbeats 8000000 in
set_option maxRecDepth 100000 in
theorem planispherelaw02_SealVerifies.calls (k : Nat) (a0 : ByteArray) (a1 : Int) (a2 : Int) (a3 : ByteArray) (r : Bool) (w : World) (h : planispherelaw02_SealVerifies.f k a0 a1 a2 a3 = some r) (hG : Glob w) :
    Calls Tryd.prog 9 #[.string a0, .int .u8 a1, .int .u8 a2, .string a3] w fun e w' => e = .returned (.bool r) ∧ Below w.heap.size w w' := by
  have HG_ := Aside0.mk hG
  clear hG
  have hu35 := Tryd.underlying35
  have HB := Aside0.mk (Below.refl w.heap.size w)
  have H : ((planispherelaw02_head.f).bind fun t101 => ((planispherelaw02_short.f (([a0, a3] : List ByteArray))).bind fun t105 => (if t105 = true then (if 0 ≤ (Int.tmod (wrap64 (a1)) 4) then (if (shl .i64 1 (Int.tmod (wrap64 (a1)) 4)) = 0 then (none) else ((seal_Public.f a0 (Int.tmod (wrap64 (a1)) 4)).bind fun bt106 => ((seal_Sign.f a0 (Int.tmod (wrap64 (a1)) 4) (Int.tmod (wrap64 (a2)) (shl .i64 1 (Int.tmod (wrap64 (a1)) 4))) a3).bind fun bt108 => ((seal_Sign.f a0 (Int.tmod (wrap64 (a1)) 4) (Int.tmod (wrap64 (a2)) (shl .i64 1 (Int.tmod (wrap64 (a1)) 4))) a3).bind fun bt117 => ((seal_Sign.f a0 (wrap64 ((Int.tmod (wrap64 (a1)) 4) + 1)) (Int.tmod (wrap64 (a2)) (shl .i64 1 (Int.tmod (wrap64 (a1)) 4))) a3).bind fun bt126 => (if bt106.2 = 0 then (if bt108.2.2.2 = 0 then (if bt117.2.2.2 = 0 then (if bt126.2.2.2 = 0 then (if bt108.1 = (Int.tmod (wrap64 (a2)) (shl .i64 1 (Int.tmod (wrap64 (a1)) 4))) then (if (bt108.2.1.length : Int) = 18 then (if (bt108.2.2.1.length : Int) = (Int.tmod (wrap64 (a1)) 4) then ((planisphereref02_Same.f bt108.1 bt108.2.1 bt108.2.2.1 bt117.1 bt117.2.1 bt117.2.2.1).bind fun t135 => (planispherelaw02_SealVerifies.j0 k a3 t101 bt106.1 (!t135) bt108.1 bt108.2.1 bt108.2.2.1 bt126.1 bt126.2.1 bt126.2.2.1)) else (planispherelaw02_SealVerifies.j0 k a3 t101 bt106.1 true bt108.1 bt108.2.1 bt108.2.2.1 bt126.1 bt126.2.1 bt126.2.2.1)) else (planispherelaw02_SealVerifies.j0 k a3 t101 bt106.1 true bt108.1 bt108.2.1 bt108.2.2.1 bt126.1 bt126.2.1 bt126.2.2.1)) else (planispherelaw02_SealVerifies.j0 k a3 t101 bt106.1 true bt108.1 bt108.2.1 bt108.2.2.1 bt126.1 bt126.2.1 bt126.2.2.1)) else (planispherelaw02_SealVerifies.j0 k a3 t101 bt106.1 true bt108.1 bt108.2.1 bt108.2.2.1 bt126.1 bt126.2.1 bt126.2.2.1)) else (planispherelaw02_SealVerifies.j0 k a3 t101 bt106.1 true bt108.1 bt108.2.1 bt108.2.2.1 bt126.1 bt126.2.1 bt126.2.2.1)) else (planispherelaw02_SealVerifies.j0 k a3 t101 bt106.1 true bt108.1 bt108.2.1 bt108.2.2.1 bt126.1 bt126.2.1 bt126.2.2.1)) else (planispherelaw02_SealVerifies.j0 k a3 t101 bt106.1 true bt108.1 bt108.2.1 bt108.2.2.1 bt126.1 bt126.2.1 bt126.2.2.1))))))) else (none)) else (some t101)))) = some r := h
  clear h
  replace H := Option.bind_eq_some_iff.mp H
  obtain ⟨t101, A50, H⟩ := H
  replace H : ((planispherelaw02_short.f (([a0, a3] : List ByteArray))).bind fun t105 => (if t105 = true then (if 0 ≤ (Int.tmod (wrap64 (a1)) 4) then (if (shl .i64 1 (Int.tmod (wrap64 (a1)) 4)) = 0 then (none) else ((seal_Public.f a0 (Int.tmod (wrap64 (a1)) 4)).bind fun bt106 => ((seal_Sign.f a0 (Int.tmod (wrap64 (a1)) 4) (Int.tmod (wrap64 (a2)) (shl .i64 1 (Int.tmod (wrap64 (a1)) 4))) a3).bind fun bt108 => ((seal_Sign.f a0 (Int.tmod (wrap64 (a1)) 4) (Int.tmod (wrap64 (a2)) (shl .i64 1 (Int.tmod (wrap64 (a1)) 4))) a3).bind fun bt117 => ((seal_Sign.f a0 (wrap64 ((Int.tmod (wrap64 (a1)) 4) + 1)) (Int.tmod (wrap64 (a2)) (shl .i64 1 (Int.tmod (wrap64 (a1)) 4))) a3).bind fun bt126 => (if bt106.2 = 0 then (if bt108.2.2.2 = 0 then (if bt117.2.2.2 = 0 then (if bt126.2.2.2 = 0 then (if bt108.1 = (Int.tmod (wrap64 (a2)) (shl .i64 1 (Int.tmod (wrap64 (a1)) 4))) then (if (bt108.2.1.length : Int) = 18 then (if (bt108.2.2.1.length : Int) = (Int.tmod (wrap64 (a1)) 4) then ((planisphereref02_Same.f bt108.1 bt108.2.1 bt108.2.2.1 bt117.1 bt117.2.1 bt117.2.2.1).bind fun t135 => (planispherelaw02_SealVerifies.j0 k a3 t101 bt106.1 (!t135) bt108.1 bt108.2.1 bt108.2.2.1 bt126.1 bt126.2.1 bt126.2.2.1)) else (planispherelaw02_SealVerifies.j0 k a3 t101 bt106.1 true bt108.1 bt108.2.1 bt108.2.2.1 bt126.1 bt126.2.1 bt126.2.2.1)) else (planispherelaw02_SealVerifies.j0 k a3 t101 bt106.1 true bt108.1 bt108.2.1 bt108.2.2.1 bt126.1 bt126.2.1 bt126.2.2.1)) else (planispherelaw02_SealVerifies.j0 k a3 t101 bt106.1 true bt108.1 bt108.2.1 bt108.2.2.1 bt126.1 bt126.2.1 bt126.2.2.1)) else (planispherelaw02_SealVerifies.j0 k a3 t101 bt106.1 true bt108.1 bt108.2.1 bt108.2.2.1 bt126.1 bt126.2.1 bt126.2.2.1)) else (planispherelaw02_SealVerifies.j0 k a3 t101 bt106.1 true bt108.1 bt108.2.1 bt108.2.2.1 bt126.1 bt126.2.1 bt126.2.2.1)) else (planispherelaw02_SealVerifies.j0 k a3 t101 bt106.1 true bt108.1 bt108.2.1 bt108.2.2.1 bt126.1 bt126.2.1 bt126.2.2.1)) else (planispherelaw02_SealVerifies.j0 k a3 t101 bt106.1 true bt108.1 bt108.2.1 bt108.2.2.1 bt126.1 bt126.2.1 bt126.2.2.1))))))) else (none)) else (some t101))) = some r := H
  have A5 := Aside0.mk A50
  clear A50
  obtain ⟨y102, hy102⟩ : ∃ y_ : List ByteArray, y_ = (([a0, a3] : List ByteArray)) := ⟨_, rfl⟩
  replace H : ((planispherelaw02_short.f y102).bind fun t105 => (if t105 = true then (if 0 ≤ (Int.tmod (wrap64 (a1)) 4) then (if (shl .i64 1 (Int.tmod (wrap64 (a1)) 4)) = 0 then (none) else ((seal_Public.f a0 (Int.tmod (wrap64 (a1)) 4)).bind fun bt106 => ((seal_Sign.f a0 (Int.tmod (wrap64 (a1)) 4) (Int.tmod (wrap64 (a2)) (shl .i64 1 (Int.tmod (wrap64 (a1)) 4))) a3).bind fun bt108 => ((seal_Sign.f a0 (Int.tmod (wrap64 (a1)) 4) (Int.tmod (wrap64 (a2)) (shl .i64 1 (Int.tmod (wrap64 (a1)) 4))) a3).bind fun bt117 => ((seal_Sign.f a0 (wrap64 ((Int.tmod (wrap64 (a1)) 4) + 1)) (Int.tmod (wrap64 (a2)) (shl .i64 1 (Int.tmod (wrap64 (a1)) 4))) a3).bind fun bt126 => (if bt106.2 = 0 then (if bt108.2.2.2 = 0 then (if bt117.2.2.2 = 0 then (if bt126.2.2.2 = 0 then (if bt108.1 = (Int.tmod (wrap64 (a2)) (shl .i64 1 (Int.tmod (wrap64 (a1)) 4))) then (if (bt108.2.1.length : Int) = 18 then (if (bt108.2.2.1.length : Int) = (Int.tmod (wrap64 (a1)) 4) then ((planisphereref02_Same.f bt108.1 bt108.2.1 bt108.2.2.1 bt117.1 bt117.2.1 bt117.2.2.1).bind fun t135 => (planispherelaw02_SealVerifies.j0 k a3 t101 bt106.1 (!t135) bt108.1 bt108.2.1 bt108.2.2.1 bt126.1 bt126.2.1 bt126.2.2.1)) else (planispherelaw02_SealVerifies.j0 k a3 t101 bt106.1 true bt108.1 bt108.2.1 bt108.2.2.1 bt126.1 bt126.2.1 bt126.2.2.1)) else (planispherelaw02_SealVerifies.j0 k a3 t101 bt106.1 true bt108.1 bt108.2.1 bt108.2.2.1 bt126.1 bt126.2.1 bt126.2.2.1)) else (planispherelaw02_SealVerifies.j0 k a3 t101 bt106.1 true bt108.1 bt108.2.1 bt108.2.2.1 bt126.1 bt126.2.1 bt126.2.2.1)) else (planispherelaw02_SealVerifies.j0 k a3 t101 bt106.1 true bt108.1 bt108.2.1 bt108.2.2.1 bt126.1 bt126.2.1 bt126.2.2.1)) else (planispherelaw02_SealVerifies.j0 k a3 t101 bt106.1 true bt108.1 bt108.2.1 bt108.2.2.1 bt126.1 bt126.2.1 bt126.2.2.1)) else (planispherelaw02_SealVerifies.j0 k a3 t101 bt106.1 true bt108.1 bt108.2.1 bt108.2.2.1 bt126.1 bt126.2.1 bt126.2.2.1)) else (planispherelaw02_SealVerifies.j0 k a3 t101 bt106.1 true bt108.1 bt108.2.1 bt108.2.2.1 bt126.1 bt126.2.1 bt126.2.2.1))))))) else (none)) else (some t101))) = some r := by first | (rw [hy102]; with_reducible exact H) | (have H2_ := (Option.bind_some _ _).symm.trans H; rw [hy102]; with_reducible exact H2_) | (have H2_ := (Option.bind_some _ _).symm.trans H; with_reducible exact H2_) | with_reducible exact H | (rw [hy102]; exact H) | exact H
  have Ny102 := Aside0.mk hy102
  clear hy102
  replace H := Option.bind_eq_some_iff.mp H
  obtain ⟨t105, A60, H⟩ := H
  replace H : (if t105 = true then (if 0 ≤ (Int.tmod (wrap64 (a1)) 4) then (if (shl .i64 1 (Int.tmod (wrap64 (a1)) 4)) = 0 then (none) else ((seal_Public.f a0 (Int.tmod (wrap64 (a1)) 4)).bind fun bt106 => ((seal_Sign.f a0 (Int.tmod (wrap64 (a1)) 4) (Int.tmod (wrap64 (a2)) (shl .i64 1 (Int.tmod (wrap64 (a1)) 4))) a3).bind fun bt108 => ((seal_Sign.f a0 (Int.tmod (wrap64 (a1)) 4) (Int.tmod (wrap64 (a2)) (shl .i64 1 (Int.tmod (wrap64 (a1)) 4))) a3).bind fun bt117 => ((seal_Sign.f a0 (wrap64 ((Int.tmod (wrap64 (a1)) 4) + 1)) (Int.tmod (wrap64 (a2)) (shl .i64 1 (Int.tmod (wrap64 (a1)) 4))) a3).bind fun bt126 => (if bt106.2 = 0 then (if bt108.2.2.2 = 0 then (if bt117.2.2.2 = 0 then (if bt126.2.2.2 = 0 then (if bt108.1 = (Int.tmod (wrap64 (a2)) (shl .i64 1 (Int.tmod (wrap64 (a1)) 4))) then (if (bt108.2.1.length : Int) = 18 then (if (bt108.2.2.1.length : Int) = (Int.tmod (wrap64 (a1)) 4) then ((planisphereref02_Same.f bt108.1 bt108.2.1 bt108.2.2.1 bt117.1 bt117.2.1 bt117.2.2.1).bind fun t135 => (planispherelaw02_SealVerifies.j0 k a3 t101 bt106.1 (!t135) bt108.1 bt108.2.1 bt108.2.2.1 bt126.1 bt126.2.1 bt126.2.2.1)) else (planispherelaw02_SealVerifies.j0 k a3 t101 bt106.1 true bt108.1 bt108.2.1 bt108.2.2.1 bt126.1 bt126.2.1 bt126.2.2.1)) else (planispherelaw02_SealVerifies.j0 k a3 t101 bt106.1 true bt108.1 bt108.2.1 bt108.2.2.1 bt126.1 bt126.2.1 bt126.2.2.1)) else (planispherelaw02_SealVerifies.j0 k a3 t101 bt106.1 true bt108.1 bt108.2.1 bt108.2.2.1 bt126.1 bt126.2.1 bt126.2.2.1)) else (planispherelaw02_SealVerifies.j0 k a3 t101 bt106.1 true bt108.1 bt108.2.1 bt108.2.2.1 bt126.1 bt126.2.1 bt126.2.2.1)) else (planispherelaw02_SealVerifies.j0 k a3 t101 bt106.1 true bt108.1 bt108.2.1 bt108.2.2.1 bt126.1 bt126.2.1 bt126.2.2.1)) else (planispherelaw02_SealVerifies.j0 k a3 t101 bt106.1 true bt108.1 bt108.2.1 bt108.2.2.1 bt126.1 bt126.2.1 bt126.2.2.1)) else (planispherelaw02_SealVerifies.j0 k a3 t101 bt106.1 true bt108.1 bt108.2.1 bt108.2.2.1 bt126.1 bt126.2.1 bt126.2.2.1))))))) else (none)) else (some t101)) = some r := H
  have A6 := Aside0.mk A60
  clear A60
  by_cases c7 : t105 = true
  · subst c7
    have H1 : (if 0 ≤ (Int.tmod (wrap64 (a1)) 4) then (if (shl .i64 1 (Int.tmod (wrap64 (a1)) 4)) = 0 then (none) else ((seal_Public.f a0 (Int.tmod (wrap64 (a1)) 4)).bind fun bt106 => ((seal_Sign.f a0 (Int.tmod (wrap64 (a1)) 4) (Int.tmod (wrap64 (a2)) (shl .i64 1 (Int.tmod (wrap64 (a1)) 4))) a3).bind fun bt108 => ((seal_Sign.f a0 (Int.tmod (wrap64 (a1)) 4) (Int.tmod (wrap64 (a2)) (shl .i64 1 (Int.tmod (wrap64 (a1)) 4))) a3).bind fun bt117 => ((seal_Sign.f a0 (wrap64 ((Int.tmod (wrap64 (a1)) 4) + 1)) (Int.tmod (wrap64 (a2)) (shl .i64 1 (Int.tmod (wrap64 (a1)) 4))) a3).bind fun bt126 => (if bt106.2 = 0 then (if bt108.2.2.2 = 0 then (if bt117.2.2.2 = 0 then (if bt126.2.2.2 = 0 then (if bt108.1 = (Int.tmod (wrap64 (a2)) (shl .i64 1 (Int.tmod (wrap64 (a1)) 4))) then (if (bt108.2.1.length : Int) = 18 then (if (bt108.2.2.1.length : Int) = (Int.tmod (wrap64 (a1)) 4) then ((planisphereref02_Same.f bt108.1 bt108.2.1 bt108.2.2.1 bt117.1 bt117.2.1 bt117.2.2.1).bind fun t135 => (planispherelaw02_SealVerifies.j0 k a3 t101 bt106.1 (!t135) bt108.1 bt108.2.1 bt108.2.2.1 bt126.1 bt126.2.1 bt126.2.2.1)) else (planispherelaw02_SealVerifies.j0 k a3 t101 bt106.1 true bt108.1 bt108.2.1 bt108.2.2.1 bt126.1 bt126.2.1 bt126.2.2.1)) else (planispherelaw02_SealVerifies.j0 k a3 t101 bt106.1 true bt108.1 bt108.2.1 bt108.2.2.1 bt126.1 bt126.2.1 bt126.2.2.1)) else (planispherelaw02_SealVerifies.j0 k a3 t101 bt106.1 true bt108.1 bt108.2.1 bt108.2.2.1 bt126.1 bt126.2.1 bt126.2.2.1)) else (planispherelaw02_SealVerifies.j0 k a3 t101 bt106.1 true bt108.1 bt108.2.1 bt108.2.2.1 bt126.1 bt126.2.1 bt126.2.2.1)) else (planispherelaw02_SealVerifies.j0 k a3 t101 bt106.1 true bt108.1 bt108.2.1 bt108.2.2.1 bt126.1 bt126.2.1 bt126.2.2.1)) else (planispherelaw02_SealVerifies.j0 k a3 t101 bt106.1 true bt108.1 bt108.2.1 bt108.2.2.1 bt126.1 bt126.2.1 bt126.2.2.1)) else (planispherelaw02_SealVerifies.j0 k a3 t101 bt106.1 true bt108.1 bt108.2.1 bt108.2.2.1 bt126.1 bt126.2.1 bt126.2.2.1))))))) else (none)) = some r := by rw [if_pos rfl] at H; exact H
    clear H
    have H := H1
    clear H1
    obtain ⟨ji8, hji8⟩ : ∃ j_ : Int, (Int.tmod (wrap64 (a1)) 4) = j_ := ⟨_, rfl⟩
    replace H : (if 0 ≤ (ji8) then (if (shl .i64 1 (ji8)) = 0 then (none) else ((seal_Public.f a0 (ji8)).bind fun bt106 => ((seal_Sign.f a0 (ji8) (Int.tmod (wrap64 (a2)) (shl .i64 1 (ji8))) a3).bind fun bt108 => ((seal_Sign.f a0 (ji8) (Int.tmod (wrap64 (a2)) (shl .i64 1 (ji8))) a3).bind fun bt117 => ((seal_Sign.f a0 (wrap64 ((ji8) + 1)) (Int.tmod (wrap64 (a2)) (shl .i64 1 (ji8))) a3).bind fun bt126 => (if bt106.2 = 0 then (if bt108.2.2.2 = 0 then (if bt117.2.2.2 = 0 then (if bt126.2.2.2 = 0 then (if bt108.1 = (Int.tmod (wrap64 (a2)) (shl .i64 1 (ji8))) then (if (bt108.2.1.length : Int) = 18 then (if (bt108.2.2.1.length : Int) = (ji8) then ((planisphereref02_Same.f bt108.1 bt108.2.1 bt108.2.2.1 bt117.1 bt117.2.1 bt117.2.2.1).bind fun t135 => (planispherelaw02_SealVerifies.j0 k a3 t101 bt106.1 (!t135) bt108.1 bt108.2.1 bt108.2.2.1 bt126.1 bt126.2.1 bt126.2.2.1)) else (planispherelaw02_SealVerifies.j0 k a3 t101 bt106.1 true bt108.1 bt108.2.1 bt108.2.2.1 bt126.1 bt126.2.1 bt126.2.2.1)) else (planispherelaw02_SealVerifies.j0 k a3 t101 bt106.1 true bt108.1 bt108.2.1 bt108.2.2.1 bt126.1 bt126.2.1 bt126.2.2.1)) else (planispherelaw02_SealVerifies.j0 k a3 t101 bt106.1 true bt108.1 bt108.2.1 bt108.2.2.1 bt126.1 bt126.2.1 bt126.2.2.1)) else (planispherelaw02_SealVerifies.j0 k a3 t101 bt106.1 true bt108.1 bt108.2.1 bt108.2.2.1 bt126.1 bt126.2.1 bt126.2.2.1)) else (planispherelaw02_SealVerifies.j0 k a3 t101 bt106.1 true bt108.1 bt108.2.1 bt108.2.2.1 bt126.1 bt126.2.1 bt126.2.2.1)) else (planispherelaw02_SealVerifies.j0 k a3 t101 bt106.1 true bt108.1 bt108.2.1 bt108.2.2.1 bt126.1 bt126.2.1 bt126.2.2.1)) else (planispherelaw02_SealVerifies.j0 k a3 t101 bt106.1 true bt108.1 bt108.2.1 bt108.2.2.1 bt126.1 bt126.2.1 bt126.2.2.1))))))) else (none)) = some r := by first | (rw [hji8] at H; exact H) | (simp only [hji8] at H ⊢; exact H)
    (try rw [hji8] at A5)
    (try rw [hji8] at A6)
    by_cases c9 : 0 ≤ (ji8)
    · rw [if_pos c9] at H
      have c9b0 := eq_true c9
      have c9b1 : decide (0 ≤ (ji8)) = true := decide_eq_true c9
      clear c9
      obtain ⟨ji10, hji10⟩ : ∃ j_ : Int, (shl .i64 1 (ji8)) = j_ := ⟨_, rfl⟩
      replace H : (if (ji10) = 0 then (none) else ((seal_Public.f a0 (ji8)).bind fun bt106 => ((seal_Sign.f a0 (ji8) (Int.tmod (wrap64 (a2)) (ji10)) a3).bind fun bt108 => ((seal_Sign.f a0 (ji8) (Int.tmod (wrap64 (a2)) (ji10)) a3).bind fun bt117 => ((seal_Sign.f a0 (wrap64 ((ji8) + 1)) (Int.tmod (wrap64 (a2)) (ji10)) a3).bind fun bt126 => (if bt106.2 = 0 then (if bt108.2.2.2 = 0 then (if bt117.2.2.2 = 0 then (if bt126.2.2.2 = 0 then (if bt108.1 = (Int.tmod (wrap64 (a2)) (ji10)) then (if (bt108.2.1.length : Int) = 18 then (if (bt108.2.2.1.length : Int) = (ji8) then ((planisphereref02_Same.f bt108.1 bt108.2.1 bt108.2.2.1 bt117.1 bt117.2.1 bt117.2.2.1).bind fun t135 => (planispherelaw02_SealVerifies.j0 k a3 t101 bt106.1 (!t135) bt108.1 bt108.2.1 bt108.2.2.1 bt126.1 bt126.2.1 bt126.2.2.1)) else (planispherelaw02_SealVerifies.j0 k a3 t101 bt106.1 true bt108.1 bt108.2.1 bt108.2.2.1 bt126.1 bt126.2.1 bt126.2.2.1)) else (planispherelaw02_SealVerifies.j0 k a3 t101 bt106.1 true bt108.1 bt108.2.1 bt108.2.2.1 bt126.1 bt126.2.1 bt126.2.2.1)) else (planispherelaw02_SealVerifies.j0 k a3 t101 bt106.1 true bt108.1 bt108.2.1 bt108.2.2.1 bt126.1 bt126.2.1 bt126.2.2.1)) else (planispherelaw02_SealVerifies.j0 k a3 t101 bt106.1 true bt108.1 bt108.2.1 bt108.2.2.1 bt126.1 bt126.2.1 bt126.2.2.1)) else (planispherelaw02_SealVerifies.j0 k a3 t101 bt106.1 true bt108.1 bt108.2.1 bt108.2.2.1 bt126.1 bt126.2.1 bt126.2.2.1)) else (planispherelaw02_SealVerifies.j0 k a3 t101 bt106.1 true bt108.1 bt108.2.1 bt108.2.2.1 bt126.1 bt126.2.1 bt126.2.2.1)) else (planispherelaw02_SealVerifies.j0 k a3 t101 bt106.1 true bt108.1 bt108.2.1 bt108.2.2.1 bt126.1 bt126.2.1 bt126.2.2.1))))))) = some r := by first | (rw [hji10] at H; exact H) | (simp only [hji10] at H ⊢; exact H)
      (try rw [hji10] at A5)
      (try rw [hji10] at A6)
      have hji10_ : (IntKind.i64.wrap (1 * 2 ^ min (ji8).toNat 64)) = ji10 := hji10
      have hji10z : (ji8) ≤ 64 → (IntKind.i64.wrap (1 * 2 ^ (ji8).toNat)) = ji10 := shl_small hji10
      have hji10u : (IntKind.i64.wrap (2 ^ min (ji8).toNat 64)) = ji10 := by have h_ := hji10_; rw [Int.one_mul] at h_; exact h_
      have hji10v : (ji8) ≤ 64 → (IntKind.i64.wrap (2 ^ (ji8).toNat)) = ji10 := fun hle_ => by have h_ := hji10z hle_; rw [Int.one_mul] at h_; exact h_
      have hji10y : (wrap64 (1 * 2 ^ min (ji8).toNat 64)) = ji10 := (i64_w _).symm.trans hji10_
      have hji10x : (ji8) ≤ 64 → (wrap64 (1 * 2 ^ (ji8).toNat)) = ji10 := fun h_ => (i64_w _).symm.trans (hji10z h_)
      by_cases c11 : (ji10) = 0
      · rw [if_pos c11] at H
        exact absurd H (by simp)
      · rw [if_neg c11] at H
        have c11b0 : ((ji10) == 0) = false := beq_eq_false_iff_ne.mpr c11
        have c11b1 : ((ji10) != 0) = true := bne_iff_ne.mpr c11
        replace H := Option.bind_eq_some_iff.mp H
        obtain ⟨⟨t106, t107⟩, A120, H⟩ := H
        replace H : ((seal_Sign.f a0 (ji8) (Int.tmod (wrap64 (a2)) (ji10)) a3).bind fun bt108 => ((seal_Sign.f a0 (ji8) (Int.tmod (wrap64 (a2)) (ji10)) a3).bind fun bt117 => ((seal_Sign.f a0 (wrap64 ((ji8) + 1)) (Int.tmod (wrap64 (a2)) (ji10)) a3).bind fun bt126 => (if t107 = 0 then (if bt108.2.2.2 = 0 then (if bt117.2.2.2 = 0 then (if bt126.2.2.2 = 0 then (if bt108.1 = (Int.tmod (wrap64 (a2)) (ji10)) then (if (bt108.2.1.length : Int) = 18 then (if (bt108.2.2.1.length : Int) = (ji8) then ((planisphereref02_Same.f bt108.1 bt108.2.1 bt108.2.2.1 bt117.1 bt117.2.1 bt117.2.2.1).bind fun t135 => (planispherelaw02_SealVerifies.j0 k a3 t101 t106 (!t135) bt108.1 bt108.2.1 bt108.2.2.1 bt126.1 bt126.2.1 bt126.2.2.1)) else (planispherelaw02_SealVerifies.j0 k a3 t101 t106 true bt108.1 bt108.2.1 bt108.2.2.1 bt126.1 bt126.2.1 bt126.2.2.1)) else (planispherelaw02_SealVerifies.j0 k a3 t101 t106 true bt108.1 bt108.2.1 bt108.2.2.1 bt126.1 bt126.2.1 bt126.2.2.1)) else (planispherelaw02_SealVerifies.j0 k a3 t101 t106 true bt108.1 bt108.2.1 bt108.2.2.1 bt126.1 bt126.2.1 bt126.2.2.1)) else (planispherelaw02_SealVerifies.j0 k a3 t101 t106 true bt108.1 bt108.2.1 bt108.2.2.1 bt126.1 bt126.2.1 bt126.2.2.1)) else (planispherelaw02_SealVerifies.j0 k a3 t101 t106 true bt108.1 bt108.2.1 bt108.2.2.1 bt126.1 bt126.2.1 bt126.2.2.1)) else (planispherelaw02_SealVerifies.j0 k a3 t101 t106 true bt108.1 bt108.2.1 bt108.2.2.1 bt126.1 bt126.2.1 bt126.2.2.1)) else (planispherelaw02_SealVerifies.j0 k a3 t101 t106 true bt108.1 bt108.2.1 bt108.2.2.1 bt126.1 bt126.2.1 bt126.2.2.1))))) = some r := H
        have A12 := Aside0.mk A120
        clear A120
        replace H := Option.bind_eq_some_iff.mp H
        obtain ⟨⟨t108, t109, t112, t115⟩, A130, H⟩ := H
        replace H : ((seal_Sign.f a0 (ji8) (Int.tmod (wrap64 (a2)) (ji10)) a3).bind fun bt117 => ((seal_Sign.f a0 (wrap64 ((ji8) + 1)) (Int.tmod (wrap64 (a2)) (ji10)) a3).bind fun bt126 => (if t107 = 0 then (if t115 = 0 then (if bt117.2.2.2 = 0 then (if bt126.2.2.2 = 0 then (if t108 = (Int.tmod (wrap64 (a2)) (ji10)) then (if (t109.length : Int) = 18 then (if (t112.length : Int) = (ji8) then ((planisphereref02_Same.f t108 t109 t112 bt117.1 bt117.2.1 bt117.2.2.1).bind fun t135 => (planispherelaw02_SealVerifies.j0 k a3 t101 t106 (!t135) t108 t109 t112 bt126.1 bt126.2.1 bt126.2.2.1)) else (planispherelaw02_SealVerifies.j0 k a3 t101 t106 true t108 t109 t112 bt126.1 bt126.2.1 bt126.2.2.1)) else (planispherelaw02_SealVerifies.j0 k a3 t101 t106 true t108 t109 t112 bt126.1 bt126.2.1 bt126.2.2.1)) else (planispherelaw02_SealVerifies.j0 k a3 t101 t106 true t108 t109 t112 bt126.1 bt126.2.1 bt126.2.2.1)) else (planispherelaw02_SealVerifies.j0 k a3 t101 t106 true t108 t109 t112 bt126.1 bt126.2.1 bt126.2.2.1)) else (planispherelaw02_SealVerifies.j0 k a3 t101 t106 true t108 t109 t112 bt126.1 bt126.2.1 bt126.2.2.1)) else (planispherelaw02_SealVerifies.j0 k a3 t101 t106 true t108 t109 t112 bt126.1 bt126.2.1 bt126.2.2.1)) else (planispherelaw02_SealVerifies.j0 k a3 t101 t106 true t108 t109 t112 bt126.1 bt126.2.1 bt126.2.2.1)))) = some r := H
        have A13 := Aside0.mk A130
        clear A130
        replace H := Option.bind_eq_some_iff.mp H
        obtain ⟨⟨t117, t118, t121, t124⟩, A140, H⟩ := H
        replace H : ((seal_Sign.f a0 (wrap64 ((ji8) + 1)) (Int.tmod (wrap64 (a2)) (ji10)) a3).bind fun bt126 => (if t107 = 0 then (if t115 = 0 then (if t124 = 0 then (if bt126.2.2.2 = 0 then (if t108 = (Int.tmod (wrap64 (a2)) (ji10)) then (if (t109.length : Int) = 18 then (if (t112.length : Int) = (ji8) then ((planisphereref02_Same.f t108 t109 t112 t117 t118 t121).bind fun t135 => (planispherelaw02_SealVerifies.j0 k a3 t101 t106 (!t135) t108 t109 t112 bt126.1 bt126.2.1 bt126.2.2.1)) else (planispherelaw02_SealVerifies.j0 k a3 t101 t106 true t108 t109 t112 bt126.1 bt126.2.1 bt126.2.2.1)) else (planispherelaw02_SealVerifies.j0 k a3 t101 t106 true t108 t109 t112 bt126.1 bt126.2.1 bt126.2.2.1)) else (planispherelaw02_SealVerifies.j0 k a3 t101 t106 true t108 t109 t112 bt126.1 bt126.2.1 bt126.2.2.1)) else (planispherelaw02_SealVerifies.j0 k a3 t101 t106 true t108 t109 t112 bt126.1 bt126.2.1 bt126.2.2.1)) else (planispherelaw02_SealVerifies.j0 k a3 t101 t106 true t108 t109 t112 bt126.1 bt126.2.1 bt126.2.2.1)) else (planispherelaw02_SealVerifies.j0 k a3 t101 t106 true t108 t109 t112 bt126.1 bt126.2.1 bt126.2.2.1)) else (planispherelaw02_SealVerifies.j0 k a3 t101 t106 true t108 t109 t112 bt126.1 bt126.2.1 bt126.2.2.1))) = some r := H
        have A14 := Aside0.mk A140
        clear A140
        replace H := Option.bind_eq_some_iff.mp H
        obtain ⟨⟨t126, t127, t130, t133⟩, A150, H⟩ := H
        replace H : (if t107 = 0 then (if t115 = 0 then (if t124 = 0 then (if t133 = 0 then (if t108 = (Int.tmod (wrap64 (a2)) (ji10)) then (if (t109.length : Int) = 18 then (if (t112.length : Int) = (ji8) then ((planisphereref02_Same.f t108 t109 t112 t117 t118 t121).bind fun t135 => (planispherelaw02_SealVerifies.j0 k a3 t101 t106 (!t135) t108 t109 t112 t126 t127 t130)) else (planispherelaw02_SealVerifies.j0 k a3 t101 t106 true t108 t109 t112 t126 t127 t130)) else (planispherelaw02_SealVerifies.j0 k a3 t101 t106 true t108 t109 t112 t126 t127 t130)) else (planispherelaw02_SealVerifies.j0 k a3 t101 t106 true t108 t109 t112 t126 t127 t130)) else (planispherelaw02_SealVerifies.j0 k a3 t101 t106 true t108 t109 t112 t126 t127 t130)) else (planispherelaw02_SealVerifies.j0 k a3 t101 t106 true t108 t109 t112 t126 t127 t130)) else (planispherelaw02_SealVerifies.j0 k a3 t101 t106 true t108 t109 t112 t126 t127 t130)) else (planispherelaw02_SealVerifies.j0 k a3 t101 t106 true t108 t109 t112 t126 t127 t130)) = some r := H
        have A15 := Aside0.mk A150
        clear A150
        have HC16 := Aside0.mk H
        clear H
        go_enter Tryd.func9, Tryd.ntmps9
        go_upto_region 10 with (first | ((with_reducible refine gate_callee (f := 25) rfl ?_); refine goesL_ (some 22) rfl rfl Tryd.func25 (by kernel_rfl) rfl #[] rfl (by (try simp only [List.map_toArray, List.map_cons, List.map_nil]); first | done | rfl | (simp only [List.length_drop, List.length_take]; rfl)) ?_; (with_reducible refine (planispherelaw02_head.calls  t101 _ A5.out (hG := ?hGl)).mono ?_); clear A5; (case hGl => exact (Glob.below HG_.out (by repeat (first | (with_reducible first | exact HB.out | apply below_alloc | apply pw_below_drewN | apply below_drew1 | refine below_set ?_ GE116.out | refine below_set ?_ GE125.out | refine below_set ?_ GE134.out) | exact HB.out)))); rintro e w17 ⟨rfl, hb⟩; refine ⟨_, rfl, ?_⟩; have n0_ := Aside0.mk (below_step (by repeat (first | (with_reducible first | exact HB.out | apply below_alloc | apply pw_below_drewN | apply below_drew1) | exact HB.out)) hb); clear HB; have HB := n0_; clear n0_; (try clear hb); (try clear hb2); (try clear hk); (try clear hi)) | ((with_reducible refine gate_dst (N := 25) rfl ?_); (try (refine gate_guard (by rfl) ?_; dsimp only)); refine Kd.R_lit Kd.string _ 9 ?hg (N := 25) ?hd (xs := ([a0, a3] : List ByteArray)) (inner := [.string a0, .string a3]) (ok := fun _ => True) (okp := fun _ => True) ?hr ?hp (fun _ hk => hk) trivial (Below.refl _ _) (Nat.le_refl _) (by simp) ?_; (case hd => rfl); (case hg => rfl); (case hr => first | (go_simp; done) | (go_simp; rfl)); (case hp => exact (Reps.one (show Kd.M Kd.string _ _ _ a0 [.string a0] from rfl) (Reps.one (show Kd.M Kd.string _ _ _ a3 [.string a3] from rfl) (Reps.none _ _)))); intro v103 w18 ho19 hb hg_ hnew_; clear hg_ hnew_; (first | rw [← Ny102.out] at ho19 | (simp only [Int.reduceToNat] at ho19; rw [← Ny102.out] at ho19)); have n0_ := Aside0.mk (Kd.R_lower ho19 (below_size (by repeat (first | (with_reducible first | exact HB.out | apply below_alloc | apply pw_below_drewN | apply below_drew1) | exact HB.out)))); have n1_ := Aside0.mk (below_step (by repeat (first | (with_reducible first | exact HB.out | apply below_alloc | apply pw_below_drewN | apply below_drew1) | exact HB.out)) hb); clear HB; have HO104 := n0_; have HB := n1_; clear n0_ n1_; clear hb ho19; obtain ⟨Ao20, co20, eo20⟩ := Kd.R_slice HO104.out; subst eo20) | ((with_reducible refine gate_callee (f := 26) rfl ?_); refine goesL_ (some 26) rfl rfl Tryd.func26 (by kernel_rfl) rfl #[.slice Ao20 y102.length co20] rfl (by (try simp only [List.map_toArray, List.map_cons, List.map_nil]); first | done | rfl | (simp only [List.length_drop, List.length_take]; rfl)) ?_; (with_reducible refine (planispherelaw02_short.callsB _ _ y102 true _ ?side1 ?side2 A6.out).mono ?_); clear A6; (case side1 => repeat (first | exact (Kd.R_reads' HO104.out).2.2 | (with_reducible refine Kd.C_alloc ?_ _) | (with_reducible refine Kd.C_drewN ?_ _) | (with_reducible refine Kd.C_drew ?_))); (case side2 => exact (Kd.R_reads' HO104.out).2.1); rintro e w21 ⟨rfl, hb⟩; refine ⟨_, rfl, ?_⟩; have n0_ := Aside0.mk (Kd.R_below (by (with_reducible repeat (first | apply Kd.R_alloc | apply Kd.R_drewN | apply Kd.R_drew)); exact HO104.out) hb); have n1_ := Aside0.mk (below_step (by repeat (first | (with_reducible first | exact HB.out | apply below_alloc | apply pw_below_drewN | apply below_drew1) | exact HB.out)) hb); clear HO104; clear HB; have HO104 := n0_; have HB := n1_; clear n0_ n1_; (try clear hb); (try clear hb2); (try clear hk); (try clear hi)) | ((with_reducible refine gate_callee (f := 28) rfl ?_); refine goesL_ (some 40) rfl rfl Tryd.func28 (by kernel_rfl) rfl #[.string a0, .int .i64 ji8] rfl (by (try simp only [List.map_toArray, List.map_cons, List.map_nil]); first | done | (simp only [hji8]; rfl) | rfl | (simp only [List.length_drop, List.length_take]; rfl)) ?_; (with_reducible refine (seal_Public.calls a0 ji8 t106 t107 _ A12.out (hG := ?hGl)).mono ?_); clear A12; (case hGl => exact (Glob.below HG_.out (by repeat (first | (with_reducible first | exact HB.out | apply below_alloc | apply pw_below_drewN | apply below_drew1 | refine below_set ?_ GE116.out | refine below_set ?_ GE125.out | refine below_set ?_ GE134.out) | exact HB.out)))); rintro e w22 ⟨rfl, hb⟩; refine ⟨_, rfl, ?_⟩; have n0_ := Aside0.mk (Kd.R_below (by (with_reducible repeat (first | apply Kd.R_alloc | apply Kd.R_drewN | apply Kd.R_drew)); exact HO104.out) hb); have n1_ := Aside0.mk (below_step (by repeat (first | (with_reducible first | exact HB.out | apply below_alloc | apply pw_below_drewN | apply below_drew1) | exact HB.out)) hb); clear HO104; clear HB; have HO104 := n0_; have HB := n1_; clear n0_ n1_; (try clear hb); (try clear hb2); (try clear hk); (try clear hi)) | ((with_reducible refine gate_callee (f := 30) rfl ?_); refine goesL_ (some 48) rfl rfl Tryd.func30 (by kernel_rfl) rfl #[.string a0, .int .i64 ji8, .int .i64 (Int.tmod (wrap64 (a2)) (ji10)), .string a3] rfl (by (try simp only [List.map_toArray, List.map_cons, List.map_nil]); first | done | (simp only [hji10, hji8]; rfl) | rfl | (simp only [List.length_drop, List.length_take]; rfl)) ?_; (with_reducible refine (seal_Sign.calls a0 ji8 (Int.tmod (wrap64 (a2)) (ji10)) a3 t108 t109 t112 t115 _ A13.out (hG := ?hGl)).mono ?_); clear A13; (case hGl => exact (Glob.below HG_.out (by repeat (first | (with_reducible first | exact HB.out | apply below_alloc | apply pw_below_drewN | apply below_drew1 | refine below_set ?_ GE116.out | refine below_set ?_ GE125.out | refine below_set ?_ GE134.out) | exact HB.out)))); rintro e w23 ⟨v110, v113, rfl, ho0, ho1, hb⟩; refine ⟨_, rfl, ?_⟩; have n0_ := Aside0.mk (Kd.R_mono (Kd.R_told (Kd.R_told (Kd.R_old (by (with_reducible repeat (first | apply Kd.R_alloc | apply Kd.R_drewN | apply Kd.R_drew)); exact HO104.out) hb) (Kd.R_base ho0)) (Kd.R_base ho1)) (fun _ h_ => h_.1)); have n1_ := Aside0.mk (Kd.R_lower (Kd.R_new' ho0 (Kd.R_lt (by (with_reducible repeat (first | apply Kd.R_alloc | apply Kd.R_drewN | apply Kd.R_drew)); exact HO104.out))) (below_size (by repeat (first | (with_reducible first | exact HB.out | apply below_alloc | apply pw_below_drewN | apply below_drew1) | exact HB.out)))); have n2_ := Aside0.mk (Kd.R_lower (Kd.R_new' ho1 (Kd.R_lt (by (with_reducible repeat (first | apply Kd.R_alloc | apply Kd.R_drewN | apply Kd.R_drew)); exact HO104.out))) (below_size (by repeat (first | (with_reducible first | exact HB.out | apply below_alloc | apply pw_below_drewN | apply below_drew1) | exact HB.out)))); have n3_ := Aside0.mk (below_step (by repeat (first | (with_reducible first | exact HB.out | apply below_alloc | apply pw_below_drewN | apply below_drew1) | exact HB.out)) hb); clear HO104; clear HB; have HO104 := n0_; have HO111 := n1_; have HO114 := n2_; have HB := n3_; clear n0_ n1_ n2_ n3_; (try clear hb); (try clear hb2); (try clear hk); (try clear hi); (try clear ho0); (try clear ho1)) | ((with_reducible refine gate_dst (N := 14) rfl ?_); (try (refine gate_guard (by rfl) ?_; dsimp only)); refine box_event ?hg (N := 14) ?hd (cs := #[.int .i64 0, .slice none 0 0, .slice none 0 0]) (t := 35) ?hr ?_; (case hd => rfl); (case hg => rfl); (case hr => first | (go_simp; done) | (go_simp; rfl)); intro gb116 hg w24 hbox hb; have n0_ := Aside0.mk (Kd.R_below (by (with_reducible repeat (first | apply Kd.R_alloc | apply Kd.R_drewN | apply Kd.R_drew)); exact HO104.out) hb); have n1_ := Aside0.mk (Kd.R_below (by (with_reducible repeat (first | apply Kd.R_alloc | apply Kd.R_drewN | apply Kd.R_drew)); exact HO111.out) hb); have n2_ := Aside0.mk (Kd.R_below (by (with_reducible repeat (first | apply Kd.R_alloc | apply Kd.R_drewN | apply Kd.R_drew)); exact HO114.out) hb); have n3_ := Aside0.mk (below_step (by repeat (first | (with_reducible first | exact HB.out | apply below_alloc | apply pw_below_drewN | apply below_drew1) | exact HB.out)) hb); have n4_ := Aside0.mk (hbox); have n5_ := Aside0.mk ((by rw [hg]; exact (below_size (by repeat (first | (with_reducible first | exact HB.out | apply below_alloc | apply pw_below_drewN | apply below_drew1) | exact HB.out))) : w.heap.size ≤ gb116)); have n6_ := Aside0.mk ((by rw [hg]; exact (below_size (by repeat (first | (with_reducible first | exact HB.out | apply below_alloc | apply pw_below_drewN | apply below_drew1) | exact HB.out))) : w.heap.size ≤ gb116)); clear HO104; clear HO111; clear HO114; clear HB; have HO104 := n0_; have HO111 := n1_; have HO114 := n2_; have HB := n3_; have BK116 := n4_; have GW116 := n5_; have GE116 := n6_; clear n0_ n1_ n2_ n3_ n4_ n5_ n6_; clear hb hbox hg; have hcz25_0 : w24.cell? ⟨gb116, 0, none⟩ = some (.int .i64 0) := (blk_cell BK116.out 0).trans rfl; have hcz25_1 : w24.cell? ⟨gb116, 1, none⟩ = some (.slice none 0 0) := (blk_cell BK116.out 1).trans rfl; have hcz25_2 : w24.cell? ⟨gb116, 2, none⟩ = some (.slice none 0 0) := (blk_cell BK116.out 2).trans rfl; have hfz25_0 := blk_frozen BK116.out 0; have hfz25_1 := blk_frozen BK116.out 1; have hfz25_2 := blk_frozen BK116.out 2; obtain ⟨Ao26, co26, eo26⟩ := Kd.R_slice HO111.out; subst eo26; obtain ⟨Ao27, co27, eo27⟩ := Kd.R_slice HO114.out; subst eo27) | ((with_reducible refine gate_callee (f := 30) rfl ?_); refine goesL_ (some 56) rfl rfl Tryd.func30 (by kernel_rfl) rfl #[.string a0, .int .i64 ji8, .int .i64 (Int.tmod (wrap64 (a2)) (ji10)), .string a3] rfl (by (try simp only [List.map_toArray, List.map_cons, List.map_nil]); first | done | (simp only [hji10, hji8]; rfl) | rfl | (simp only [List.length_drop, List.length_take]; rfl)) ?_; (with_reducible refine (seal_Sign.calls a0 ji8 (Int.tmod (wrap64 (a2)) (ji10)) a3 t117 t118 t121 t124 _ A14.out (hG := ?hGl)).mono ?_); clear A14; (case hGl => exact (Glob.below HG_.out (by repeat (first | (with_reducible first | exact HB.out | apply below_alloc | apply pw_below_drewN | apply below_drew1 | refine below_set ?_ GE116.out | refine below_set ?_ GE125.out | refine below_set ?_ GE134.out) | exact HB.out)))); rintro e w28 ⟨v119, v122, rfl, ho0, ho1, hb⟩; refine ⟨_, rfl, ?_⟩; have n0_ := Aside0.mk (Kd.R_mono (Kd.R_told (Kd.R_told (Kd.R_old (by (with_reducible repeat (first | apply Kd.R_alloc | apply Kd.R_drewN | apply Kd.R_drew)); exact (Kd.R_mono (Kd.R_far (p := ⟨gb116, 2, none⟩) (Kd.R_far (p := ⟨gb116, 1, none⟩) (Kd.R_far (p := ⟨gb116, 0, none⟩) (Kd.R_types HO104.out BK116.out (by decide)) (fun _ hk => hk.2) (.int .i64 t108)) (fun _ hk => hk.2) (.slice Ao26 t109.length co26)) (fun _ hk => hk.2) (.slice Ao27 t112.length co27)) (fun _ h_ => h_.1))) hb) (Kd.R_base ho0)) (Kd.R_base ho1)) (fun _ h_ => h_.1)); have n1_ := Aside0.mk (Kd.R_mono (Kd.R_told (Kd.R_told (Kd.R_old (by (with_reducible repeat (first | apply Kd.R_alloc | apply Kd.R_drewN | apply Kd.R_drew)); exact (Kd.R_mono (Kd.R_far (p := ⟨gb116, 2, none⟩) (Kd.R_far (p := ⟨gb116, 1, none⟩) (Kd.R_far (p := ⟨gb116, 0, none⟩) (Kd.R_types HO111.out BK116.out (by decide)) (fun _ hk => hk.2) (.int .i64 t108)) (fun _ hk => hk.2) (.slice Ao26 t109.length co26)) (fun _ hk => hk.2) (.slice Ao27 t112.length co27)) (fun _ h_ => h_.1))) hb) (Kd.R_base ho0)) (Kd.R_base ho1)) (fun _ h_ => h_.1)); have n2_ := Aside0.mk (Kd.R_mono (Kd.R_told (Kd.R_told (Kd.R_old (by (with_reducible repeat (first | apply Kd.R_alloc | apply Kd.R_drewN | apply Kd.R_drew)); exact (Kd.R_mono (Kd.R_far (p := ⟨gb116, 2, none⟩) (Kd.R_far (p := ⟨gb116, 1, none⟩) (Kd.R_far (p := ⟨gb116, 0, none⟩) (Kd.R_types HO114.out BK116.out (by decide)) (fun _ hk => hk.2) (.int .i64 t108)) (fun _ hk => hk.2) (.slice Ao26 t109.length co26)) (fun _ hk => hk.2) (.slice Ao27 t112.length co27)) (fun _ h_ => h_.1))) hb) (Kd.R_base ho0)) (Kd.R_base ho1)) (fun _ h_ => h_.1)); have n3_ := Aside0.mk (Kd.R_lower (Kd.R_new' (Kd.R_new' (Kd.R_new' ho0 (Kd.R_lt (by (with_reducible repeat (first | apply Kd.R_alloc | apply Kd.R_drewN | apply Kd.R_drew)); exact (Kd.R_mono (Kd.R_far (p := ⟨gb116, 2, none⟩) (Kd.R_far (p := ⟨gb116, 1, none⟩) (Kd.R_far (p := ⟨gb116, 0, none⟩) (Kd.R_types HO104.out BK116.out (by decide)) (fun _ hk => hk.2) (.int .i64 t108)) (fun _ hk => hk.2) (.slice Ao26 t109.length co26)) (fun _ hk => hk.2) (.slice Ao27 t112.length co27)) (fun _ h_ => h_.1))))) (Kd.R_lt (by (with_reducible repeat (first | apply Kd.R_alloc | apply Kd.R_drewN | apply Kd.R_drew)); exact (Kd.R_mono (Kd.R_far (p := ⟨gb116, 2, none⟩) (Kd.R_far (p := ⟨gb116, 1, none⟩) (Kd.R_far (p := ⟨gb116, 0, none⟩) (Kd.R_types HO111.out BK116.out (by decide)) (fun _ hk => hk.2) (.int .i64 t108)) (fun _ hk => hk.2) (.slice Ao26 t109.length co26)) (fun _ hk => hk.2) (.slice Ao27 t112.length co27)) (fun _ h_ => h_.1))))) (Kd.R_lt (by (with_reducible repeat (first | apply Kd.R_alloc | apply Kd.R_drewN | apply Kd.R_drew)); exact (Kd.R_mono (Kd.R_far (p := ⟨gb116, 2, none⟩) (Kd.R_far (p := ⟨gb116, 1, none⟩) (Kd.R_far (p := ⟨gb116, 0, none⟩) (Kd.R_types HO114.out BK116.out (by decide)) (fun _ hk => hk.2) (.int .i64 t108)) (fun _ hk => hk.2) (.slice Ao26 t109.length co26)) (fun _ hk => hk.2) (.slice Ao27 t112.length co27)) (fun _ h_ => h_.1))))) (below_size (by repeat (first | (with_reducible first | exact HB.out | apply below_alloc | apply pw_below_drewN | apply below_drew1 | refine below_set ?_ GE116.out) | exact HB.out)))); have n4_ := Aside0.mk (Kd.R_lower (Kd.R_new' (Kd.R_new' (Kd.R_new' ho1 (Kd.R_lt (by (with_reducible repeat (first | apply Kd.R_alloc | apply Kd.R_drewN | apply Kd.R_drew)); exact (Kd.R_mono (Kd.R_far (p := ⟨gb116, 2, none⟩) (Kd.R_far (p := ⟨gb116, 1, none⟩) (Kd.R_far (p := ⟨gb116, 0, none⟩) (Kd.R_types HO104.out BK116.out (by decide)) (fun _ hk => hk.2) (.int .i64 t108)) (fun _ hk => hk.2) (.slice Ao26 t109.length co26)) (fun _ hk => hk.2) (.slice Ao27 t112.length co27)) (fun _ h_ => h_.1))))) (Kd.R_lt (by (with_reducible repeat (first | apply Kd.R_alloc | apply Kd.R_drewN | apply Kd.R_drew)); exact (Kd.R_mono (Kd.R_far (p := ⟨gb116, 2, none⟩) (Kd.R_far (p := ⟨gb116, 1, none⟩) (Kd.R_far (p := ⟨gb116, 0, none⟩) (Kd.R_types HO111.out BK116.out (by decide)) (fun _ hk => hk.2) (.int .i64 t108)) (fun _ hk => hk.2) (.slice Ao26 t109.length co26)) (fun _ hk => hk.2) (.slice Ao27 t112.length co27)) (fun _ h_ => h_.1))))) (Kd.R_lt (by (with_reducible repeat (first | apply Kd.R_alloc | apply Kd.R_drewN | apply Kd.R_drew)); exact (Kd.R_mono (Kd.R_far (p := ⟨gb116, 2, none⟩) (Kd.R_far (p := ⟨gb116, 1, none⟩) (Kd.R_far (p := ⟨gb116, 0, none⟩) (Kd.R_types HO114.out BK116.out (by decide)) (fun _ hk => hk.2) (.int .i64 t108)) (fun _ hk => hk.2) (.slice Ao26 t109.length co26)) (fun _ hk => hk.2) (.slice Ao27 t112.length co27)) (fun _ h_ => h_.1))))) (below_size (by repeat (first | (with_reducible first | exact HB.out | apply below_alloc | apply pw_below_drewN | apply below_drew1 | refine below_set ?_ GE116.out) | exact HB.out)))); have n5_ := Aside0.mk (blk_below (g := gb116) (o := .cells #[.int .i64 t108, .slice Ao26 t109.length co26, .slice Ao27 t112.length co27] 35 (0, 0)) (by (with_reducible repeat (first | refine blk_drewN ?_ _ | refine blk_drew ?_ | refine blk_alloc ?_ _)); refine blk_put (cs := #[.int .i64 t108, .slice Ao26 t109.length co26, .slice none 0 0]) ?_ 2 _ rfl; (with_reducible repeat (first | refine blk_drewN ?_ _ | refine blk_drew ?_ | refine blk_alloc ?_ _)); refine blk_put (cs := #[.int .i64 t108, .slice none 0 0, .slice none 0 0]) ?_ 1 _ rfl; (with_reducible repeat (first | refine blk_drewN ?_ _ | refine blk_drew ?_ | refine blk_alloc ?_ _)); refine blk_put (cs := #[.int .i64 0, .slice none 0 0, .slice none 0 0]) ?_ 0 _ rfl; (with_reducible repeat (first | refine blk_drewN ?_ _ | refine blk_drew ?_ | refine blk_alloc ?_ _)); exact BK116.out) hb); have n6_ := Aside0.mk (below_step (by repeat (first | (with_reducible first | exact HB.out | apply below_alloc | apply pw_below_drewN | apply below_drew1 | refine below_set ?_ GE116.out) | exact HB.out)) hb); clear HO104; clear HO111; clear HO114; clear BK116; clear HB; have HO104 := n0_; have HO111 := n1_; have HO114 := n2_; have HO120 := n3_; have HO123 := n4_; have BK116 := n5_; have HB := n6_; clear n0_ n1_ n2_ n3_ n4_ n5_ n6_; (try clear hb); (try clear hb2); (try clear hk); (try clear hi); (try clear ho0); (try clear ho1)) | ((with_reducible refine gate_dst (N := 16) rfl ?_); (try (refine gate_guard (by rfl) ?_; dsimp only)); refine box_event ?hg (N := 16) ?hd (cs := #[.int .i64 0, .slice none 0 0, .slice none 0 0]) (t := 35) ?hr ?_; (case hd => rfl); (case hg => rfl); (case hr => first | (go_simp; done) | (go_simp; rfl)); intro gb125 hg w29 hbox hb; have n0_ := Aside0.mk (Kd.R_below (by (with_reducible repeat (first | apply Kd.R_alloc | apply Kd.R_drewN | apply Kd.R_drew)); exact HO104.out) hb); have n1_ := Aside0.mk (Kd.R_below (by (with_reducible repeat (first | apply Kd.R_alloc | apply Kd.R_drewN | apply Kd.R_drew)); exact HO111.out) hb); have n2_ := Aside0.mk (Kd.R_below (by (with_reducible repeat (first | apply Kd.R_alloc | apply Kd.R_drewN | apply Kd.R_drew)); exact HO114.out) hb); have n3_ := Aside0.mk (Kd.R_below (by (with_reducible repeat (first | apply Kd.R_alloc | apply Kd.R_drewN | apply Kd.R_drew)); exact HO120.out) hb); have n4_ := Aside0.mk (Kd.R_below (by (with_reducible repeat (first | apply Kd.R_alloc | apply Kd.R_drewN | apply Kd.R_drew)); exact HO123.out) hb); have n5_ := Aside0.mk (blk_below (g := gb116) (o := .cells #[.int .i64 t108, .slice Ao26 t109.length co26, .slice Ao27 t112.length co27] 35 (0, 0)) (by (with_reducible repeat (first | refine blk_drewN ?_ _ | refine blk_drew ?_ | refine blk_alloc ?_ _)); exact BK116.out) hb); have n6_ := Aside0.mk (below_step (by repeat (first | (with_reducible first | exact HB.out | apply below_alloc | apply pw_below_drewN | apply below_drew1 | refine below_set ?_ GE116.out) | exact HB.out)) hb); have n7_ := Aside0.mk (hbox); have n8_ := Aside0.mk ((by rw [hg]; exact (below_size (by repeat (first | (with_reducible first | exact HB.out | apply below_alloc | apply pw_below_drewN | apply below_drew1 | refine below_set ?_ GE116.out) | exact HB.out))) : w.heap.size ≤ gb125)); have n9_ := Aside0.mk ((by rw [hg]; exact (below_size (by repeat (first | (with_reducible first | exact HB.out | apply below_alloc | apply pw_below_drewN | apply below_drew1 | refine below_set ?_ GE116.out) | exact HB.out))) : w.heap.size ≤ gb125)); have n10_ := Aside0.mk ((by rw [hg]; exact Nat.ne_of_lt (blk_lt (g := gb116) (o := .cells #[.int .i64 t108, .slice Ao26 t109.length co26, .slice Ao27 t112.length co27] 35 (0, 0)) (by (with_reducible repeat (first | refine blk_drewN ?_ _ | refine blk_drew ?_ | refine blk_alloc ?_ _)); exact BK116.out)) : gb116 ≠ gb125)); have n11_ := Aside0.mk ((by rw [hg]; exact Nat.ne_of_gt (blk_lt (g := gb116) (o := .cells #[.int .i64 t108, .slice Ao26 t109.length co26, .slice Ao27 t112.length co27] 35 (0, 0)) (by (with_reducible repeat (first | refine blk_drewN ?_ _ | refine blk_drew ?_ | refine blk_alloc ?_ _)); exact BK116.out)) : gb125 ≠ gb116)); clear HO104; clear HO111; clear HO114; clear HO120; clear HO123; clear BK116; clear HB; have HO104 := n0_; have HO111 := n1_; have HO114 := n2_; have HO120 := n3_; have HO123 := n4_; have BK116 := n5_; have HB := n6_; have BK125 := n7_; have GW125 := n8_; have GE125 := n9_; have NB116_125 := n10_; have NB125_116 := n11_; clear n0_ n1_ n2_ n3_ n4_ n5_ n6_ n7_ n8_ n9_ n10_ n11_; clear hb hbox hg; have hnb30 := NB125_116.out; have hnc30 := NB116_125.out; have hcz31_0 : w29.cell? ⟨gb125, 0, none⟩ = some (.int .i64 0) := (blk_cell BK125.out 0).trans rfl; have hcz31_1 : w29.cell? ⟨gb125, 1, none⟩ = some (.slice none 0 0) := (blk_cell BK125.out 1).trans rfl; have hcz31_2 : w29.cell? ⟨gb125, 2, none⟩ = some (.slice none 0 0) := (blk_cell BK125.out 2).trans rfl; have hfz31_0 := blk_frozen BK125.out 0; have hfz31_1 := blk_frozen BK125.out 1; have hfz31_2 := blk_frozen BK125.out 2; obtain ⟨Ao32, co32, eo32⟩ := Kd.R_slice HO120.out; subst eo32; obtain ⟨Ao33, co33, eo33⟩ := Kd.R_slice HO123.out; subst eo33) | ((with_reducible refine gate_callee (f := 30) rfl ?_); refine goesL_ (some 65) rfl rfl Tryd.func30 (by kernel_rfl) rfl #[.string a0, .int .i64 (wrap64 ((ji8) + 1)), .int .i64 (Int.tmod (wrap64 (a2)) (ji10)), .string a3] rfl (by (try simp only [List.map_toArray, List.map_cons, List.map_nil]); first | done | (simp only [hji10, hji8]; rfl) | rfl | (simp only [List.length_drop, List.length_take]; rfl)) ?_; (with_reducible refine (seal_Sign.calls a0 (wrap64 ((ji8) + 1)) (Int.tmod (wrap64 (a2)) (ji10)) a3 t126 t127 t130 t133 _ A15.out (hG := ?hGl)).mono ?_); clear A15; (case hGl => exact (Glob.below HG_.out (by repeat (first | (with_reducible first | exact HB.out | apply below_alloc | apply pw_below_drewN | apply below_drew1 | refine below_set ?_ GE116.out | refine below_set ?_ GE125.out | refine below_set ?_ GE134.out) | exact HB.out)))); rintro e w34 ⟨v128, v131, rfl, ho0, ho1, hb⟩; refine ⟨_, rfl, ?_⟩; have n0_ := Aside0.mk (Kd.R_mono (Kd.R_told (Kd.R_told (Kd.R_old (by (with_reducible repeat (first | apply Kd.R_alloc | apply Kd.R_drewN | apply Kd.R_drew)); exact (Kd.R_mono (Kd.R_far (p := ⟨gb125, 2, none⟩) (Kd.R_far (p := ⟨gb125, 1, none⟩) (Kd.R_far (p := ⟨gb125, 0, none⟩) (Kd.R_types HO104.out BK125.out (by decide)) (fun _ hk => hk.2) (.int .i64 t117)) (fun _ hk => hk.2) (.slice Ao32 t118.length co32)) (fun _ hk => hk.2) (.slice Ao33 t121.length co33)) (fun _ h_ => h_.1))) hb) (Kd.R_base ho0)) (Kd.R_base ho1)) (fun _ h_ => h_.1)); have n1_ := Aside0.mk (Kd.R_mono (Kd.R_told (Kd.R_told (Kd.R_old (by (with_reducible repeat (first | apply Kd.R_alloc | apply Kd.R_drewN | apply Kd.R_drew)); exact (Kd.R_mono (Kd.R_far (p := ⟨gb125, 2, none⟩) (Kd.R_far (p := ⟨gb125, 1, none⟩) (Kd.R_far (p := ⟨gb125, 0, none⟩) (Kd.R_types HO111.out BK125.out (by decide)) (fun _ hk => hk.2) (.int .i64 t117)) (fun _ hk => hk.2) (.slice Ao32 t118.length co32)) (fun _ hk => hk.2) (.slice Ao33 t121.length co33)) (fun _ h_ => h_.1))) hb) (Kd.R_base ho0)) (Kd.R_base ho1)) (fun _ h_ => h_.1)); have n2_ := Aside0.mk (Kd.R_mono (Kd.R_told (Kd.R_told (Kd.R_old (by (with_reducible repeat (first | apply Kd.R_alloc | apply Kd.R_drewN | apply Kd.R_drew)); exact (Kd.R_mono (Kd.R_far (p := ⟨gb125, 2, none⟩) (Kd.R_far (p := ⟨gb125, 1, none⟩) (Kd.R_far (p := ⟨gb125, 0, none⟩) (Kd.R_types HO114.out BK125.out (by decide)) (fun _ hk => hk.2) (.int .i64 t117)) (fun _ hk => hk.2) (.slice Ao32 t118.length co32)) (fun _ hk => hk.2) (.slice Ao33 t121.length co33)) (fun _ h_ => h_.1))) hb) (Kd.R_base ho0)) (Kd.R_base ho1)) (fun _ h_ => h_.1)); have n3_ := Aside0.mk (Kd.R_mono (Kd.R_told (Kd.R_told (Kd.R_old (by (with_reducible repeat (first | apply Kd.R_alloc | apply Kd.R_drewN | apply Kd.R_drew)); exact (Kd.R_mono (Kd.R_far (p := ⟨gb125, 2, none⟩) (Kd.R_far (p := ⟨gb125, 1, none⟩) (Kd.R_far (p := ⟨gb125, 0, none⟩) (Kd.R_types HO120.out BK125.out (by decide)) (fun _ hk => hk.2) (.int .i64 t117)) (fun _ hk => hk.2) (.slice Ao32 t118.length co32)) (fun _ hk => hk.2) (.slice Ao33 t121.length co33)) (fun _ h_ => h_.1))) hb) (Kd.R_base ho0)) (Kd.R_base ho1)) (fun _ h_ => h_.1)); have n4_ := Aside0.mk (Kd.R_mono (Kd.R_told (Kd.R_told (Kd.R_old (by (with_reducible repeat (first | apply Kd.R_alloc | apply Kd.R_drewN | apply Kd.R_drew)); exact (Kd.R_mono (Kd.R_far (p := ⟨gb125, 2, none⟩) (Kd.R_far (p := ⟨gb125, 1, none⟩) (Kd.R_far (p := ⟨gb125, 0, none⟩) (Kd.R_types HO123.out BK125.out (by decide)) (fun _ hk => hk.2) (.int .i64 t117)) (fun _ hk => hk.2) (.slice Ao32 t118.length co32)) (fun _ hk => hk.2) (.slice Ao33 t121.length co33)) (fun _ h_ => h_.1))) hb) (Kd.R_base ho0)) (Kd.R_base ho1)) (fun _ h_ => h_.1)); have n5_ := Aside0.mk (Kd.R_lower (Kd.R_new' (Kd.R_new' (Kd.R_new' (Kd.R_new' (Kd.R_new' ho0 (Kd.R_lt (by (with_reducible repeat (first | apply Kd.R_alloc | apply Kd.R_drewN | apply Kd.R_drew)); exact (Kd.R_mono (Kd.R_far (p := ⟨gb125, 2, none⟩) (Kd.R_far (p := ⟨gb125, 1, none⟩) (Kd.R_far (p := ⟨gb125, 0, none⟩) (Kd.R_types HO104.out BK125.out (by decide)) (fun _ hk => hk.2) (.int .i64 t117)) (fun _ hk => hk.2) (.slice Ao32 t118.length co32)) (fun _ hk => hk.2) (.slice Ao33 t121.length co33)) (fun _ h_ => h_.1))))) (Kd.R_lt (by (with_reducible repeat (first | apply Kd.R_alloc | apply Kd.R_drewN | apply Kd.R_drew)); exact (Kd.R_mono (Kd.R_far (p := ⟨gb125, 2, none⟩) (Kd.R_far (p := ⟨gb125, 1, none⟩) (Kd.R_far (p := ⟨gb125, 0, none⟩) (Kd.R_types HO111.out BK125.out (by decide)) (fun _ hk => hk.2) (.int .i64 t117)) (fun _ hk => hk.2) (.slice Ao32 t118.length co32)) (fun _ hk => hk.2) (.slice Ao33 t121.length co33)) (fun _ h_ => h_.1))))) (Kd.R_lt (by (with_reducible repeat (first | apply Kd.R_alloc | apply Kd.R_drewN | apply Kd.R_drew)); exact (Kd.R_mono (Kd.R_far (p := ⟨gb125, 2, none⟩) (Kd.R_far (p := ⟨gb125, 1, none⟩) (Kd.R_far (p := ⟨gb125, 0, none⟩) (Kd.R_types HO114.out BK125.out (by decide)) (fun _ hk => hk.2) (.int .i64 t117)) (fun _ hk => hk.2) (.slice Ao32 t118.length co32)) (fun _ hk => hk.2) (.slice Ao33 t121.length co33)) (fun _ h_ => h_.1))))) (Kd.R_lt (by (with_reducible repeat (first | apply Kd.R_alloc | apply Kd.R_drewN | apply Kd.R_drew)); exact (Kd.R_mono (Kd.R_far (p := ⟨gb125, 2, none⟩) (Kd.R_far (p := ⟨gb125, 1, none⟩) (Kd.R_far (p := ⟨gb125, 0, none⟩) (Kd.R_types HO120.out BK125.out (by decide)) (fun _ hk => hk.2) (.int .i64 t117)) (fun _ hk => hk.2) (.slice Ao32 t118.length co32)) (fun _ hk => hk.2) (.slice Ao33 t121.length co33)) (fun _ h_ => h_.1))))) (Kd.R_lt (by (with_reducible repeat (first | apply Kd.R_alloc | apply Kd.R_drewN | apply Kd.R_drew)); exact (Kd.R_mono (Kd.R_far (p := ⟨gb125, 2, none⟩) (Kd.R_far (p := ⟨gb125, 1, none⟩) (Kd.R_far (p := ⟨gb125, 0, none⟩) (Kd.R_types HO123.out BK125.out (by decide)) (fun _ hk => hk.2) (.int .i64 t117)) (fun _ hk => hk.2) (.slice Ao32 t118.length co32)) (fun _ hk => hk.2) (.slice Ao33 t121.length co33)) (fun _ h_ => h_.1))))) (below_size (by repeat (first | (with_reducible first | exact HB.out | apply below_alloc | apply pw_below_drewN | apply below_drew1 | refine below_set ?_ GE116.out | refine below_set ?_ GE125.out) | exact HB.out)))); have n6_ := Aside0.mk (Kd.R_lower (Kd.R_new' (Kd.R_new' (Kd.R_new' (Kd.R_new' (Kd.R_new' ho1 (Kd.R_lt (by (with_reducible repeat (first | apply Kd.R_alloc | apply Kd.R_drewN | apply Kd.R_drew)); exact (Kd.R_mono (Kd.R_far (p := ⟨gb125, 2, none⟩) (Kd.R_far (p := ⟨gb125, 1, none⟩) (Kd.R_far (p := ⟨gb125, 0, none⟩) (Kd.R_types HO104.out BK125.out (by decide)) (fun _ hk => hk.2) (.int .i64 t117)) (fun _ hk => hk.2) (.slice Ao32 t118.length co32)) (fun _ hk => hk.2) (.slice Ao33 t121.length co33)) (fun _ h_ => h_.1))))) (Kd.R_lt (by (with_reducible repeat (first | apply Kd.R_alloc | apply Kd.R_drewN | apply Kd.R_drew)); exact (Kd.R_mono (Kd.R_far (p := ⟨gb125, 2, none⟩) (Kd.R_far (p := ⟨gb125, 1, none⟩) (Kd.R_far (p := ⟨gb125, 0, none⟩) (Kd.R_types HO111.out BK125.out (by decide)) (fun _ hk => hk.2) (.int .i64 t117)) (fun _ hk => hk.2) (.slice Ao32 t118.length co32)) (fun _ hk => hk.2) (.slice Ao33 t121.length co33)) (fun _ h_ => h_.1))))) (Kd.R_lt (by (with_reducible repeat (first | apply Kd.R_alloc | apply Kd.R_drewN | apply Kd.R_drew)); exact (Kd.R_mono (Kd.R_far (p := ⟨gb125, 2, none⟩) (Kd.R_far (p := ⟨gb125, 1, none⟩) (Kd.R_far (p := ⟨gb125, 0, none⟩) (Kd.R_types HO114.out BK125.out (by decide)) (fun _ hk => hk.2) (.int .i64 t117)) (fun _ hk => hk.2) (.slice Ao32 t118.length co32)) (fun _ hk => hk.2) (.slice Ao33 t121.length co33)) (fun _ h_ => h_.1))))) (Kd.R_lt (by (with_reducible repeat (first | apply Kd.R_alloc | apply Kd.R_drewN | apply Kd.R_drew)); exact (Kd.R_mono (Kd.R_far (p := ⟨gb125, 2, none⟩) (Kd.R_far (p := ⟨gb125, 1, none⟩) (Kd.R_far (p := ⟨gb125, 0, none⟩) (Kd.R_types HO120.out BK125.out (by decide)) (fun _ hk => hk.2) (.int .i64 t117)) (fun _ hk => hk.2) (.slice Ao32 t118.length co32)) (fun _ hk => hk.2) (.slice Ao33 t121.length co33)) (fun _ h_ => h_.1))))) (Kd.R_lt (by (with_reducible repeat (first | apply Kd.R_alloc | apply Kd.R_drewN | apply Kd.R_drew)); exact (Kd.R_mono (Kd.R_far (p := ⟨gb125, 2, none⟩) (Kd.R_far (p := ⟨gb125, 1, none⟩) (Kd.R_far (p := ⟨gb125, 0, none⟩) (Kd.R_types HO123.out BK125.out (by decide)) (fun _ hk => hk.2) (.int .i64 t117)) (fun _ hk => hk.2) (.slice Ao32 t118.length co32)) (fun _ hk => hk.2) (.slice Ao33 t121.length co33)) (fun _ h_ => h_.1))))) (below_size (by repeat (first | (with_reducible first | exact HB.out | apply below_alloc | apply pw_below_drewN | apply below_drew1 | refine below_set ?_ GE116.out | refine below_set ?_ GE125.out) | exact HB.out)))); have n7_ := Aside0.mk (blk_below (g := gb116) (o := .cells #[.int .i64 t108, .slice Ao26 t109.length co26, .slice Ao27 t112.length co27] 35 (0, 0)) (by (with_reducible repeat (first | refine blk_drewN ?_ _ | refine blk_drew ?_ | refine blk_alloc ?_ _)); refine blk_far ?_ NB116_125.out _; (with_reducible repeat (first | refine blk_drewN ?_ _ | refine blk_drew ?_ | refine blk_alloc ?_ _)); refine blk_far ?_ NB116_125.out _; (with_reducible repeat (first | refine blk_drewN ?_ _ | refine blk_drew ?_ | refine blk_alloc ?_ _)); refine blk_far ?_ NB116_125.out _; (with_reducible repeat (first | refine blk_drewN ?_ _ | refine blk_drew ?_ | refine blk_alloc ?_ _)); exact BK116.out) hb); have n8_ := Aside0.mk (blk_below (g := gb125) (o := .cells #[.int .i64 t117, .slice Ao32 t118.length co32, .slice Ao33 t121.length co33] 35 (0, 0)) (by (with_reducible repeat (first | refine blk_drewN ?_ _ | refine blk_drew ?_ | refine blk_alloc ?_ _)); refine blk_put (cs := #[.int .i64 t117, .slice Ao32 t118.length co32, .slice none 0 0]) ?_ 2 _ rfl; (with_reducible repeat (first | refine blk_drewN ?_ _ | refine blk_drew ?_ | refine blk_alloc ?_ _)); refine blk_put (cs := #[.int .i64 t117, .slice none 0 0, .slice none 0 0]) ?_ 1 _ rfl; (with_reducible repeat (first | refine blk_drewN ?_ _ | refine blk_drew ?_ | refine blk_alloc ?_ _)); refine blk_put (cs := #[.int .i64 0, .slice none 0 0, .slice none 0 0]) ?_ 0 _ rfl; (with_reducible repeat (first | refine blk_drewN ?_ _ | refine blk_drew ?_ | refine blk_alloc ?_ _)); exact BK125.out) hb); have n9_ := Aside0.mk (below_step (by repeat (first | (with_reducible first | exact HB.out | apply below_alloc | apply pw_below_drewN | apply below_drew1 | refine below_set ?_ GE116.out | refine below_set ?_ GE125.out) | exact HB.out)) hb); clear HO104; clear HO111; clear HO114; clear HO120; clear HO123; clear BK116; clear BK125; clear HB; have HO104 := n0_; have HO111 := n1_; have HO114 := n2_; have HO120 := n3_; have HO123 := n4_; have HO129 := n5_; have HO132 := n6_; have BK116 := n7_; have BK125 := n8_; have HB := n9_; clear n0_ n1_ n2_ n3_ n4_ n5_ n6_ n7_ n8_ n9_; (try clear hb); (try clear hb2); (try clear hk); (try clear hi); (try clear ho0); (try clear ho1)) | ((with_reducible refine gate_dst (N := 18) rfl ?_); (try (refine gate_guard (by rfl) ?_; dsimp only)); refine box_event ?hg (N := 18) ?hd (cs := #[.int .i64 0, .slice none 0 0, .slice none 0 0]) (t := 35) ?hr ?_; (case hd => rfl); (case hg => rfl); (case hr => first | (go_simp; done) | (go_simp; rfl)); intro gb134 hg w35 hbox hb; have n0_ := Aside0.mk (Kd.R_below (by (with_reducible repeat (first | apply Kd.R_alloc | apply Kd.R_drewN | apply Kd.R_drew)); exact HO104.out) hb); have n1_ := Aside0.mk (Kd.R_below (by (with_reducible repeat (first | apply Kd.R_alloc | apply Kd.R_drewN | apply Kd.R_drew)); exact HO111.out) hb); have n2_ := Aside0.mk (Kd.R_below (by (with_reducible repeat (first | apply Kd.R_alloc | apply Kd.R_drewN | apply Kd.R_drew)); exact HO114.out) hb); have n3_ := Aside0.mk (Kd.R_below (by (with_reducible repeat (first | apply Kd.R_alloc | apply Kd.R_drewN | apply Kd.R_drew)); exact HO120.out) hb); have n4_ := Aside0.mk (Kd.R_below (by (with_reducible repeat (first | apply Kd.R_alloc | apply Kd.R_drewN | apply Kd.R_drew)); exact HO123.out) hb); have n5_ := Aside0.mk (Kd.R_below (by (with_reducible repeat (first | apply Kd.R_alloc | apply Kd.R_drewN | apply Kd.R_drew)); exact HO129.out) hb); have n6_ := Aside0.mk (Kd.R_below (by (with_reducible repeat (first | apply Kd.R_alloc | apply Kd.R_drewN | apply Kd.R_drew)); exact HO132.out) hb); have n7_ := Aside0.mk (blk_below (g := gb116) (o := .cells #[.int .i64 t108, .slice Ao26 t109.length co26, .slice Ao27 t112.length co27] 35 (0, 0)) (by (with_reducible repeat (first | refine blk_drewN ?_ _ | refine blk_drew ?_ | refine blk_alloc ?_ _)); exact BK116.out) hb); have n8_ := Aside0.mk (blk_below (g := gb125) (o := .cells #[.int .i64 t117, .slice Ao32 t118.length co32, .slice Ao33 t121.length co33] 35 (0, 0)) (by (with_reducible repeat (first | refine blk_drewN ?_ _ | refine blk_drew ?_ | refine blk_alloc ?_ _)); exact BK125.out) hb); have n9_ := Aside0.mk (below_step (by repeat (first | (with_reducible first | exact HB.out | apply below_alloc | apply pw_below_drewN | apply below_drew1 | refine below_set ?_ GE116.out | refine below_set ?_ GE125.out) | exact HB.out)) hb); have n10_ := Aside0.mk (hbox); have n11_ := Aside0.mk ((by rw [hg]; exact (below_size (by repeat (first | (with_reducible first | exact HB.out | apply below_alloc | apply pw_below_drewN | apply below_drew1 | refine below_set ?_ GE116.out | refine below_set ?_ GE125.out) | exact HB.out))) : w.heap.size ≤ gb134)); have n12_ := Aside0.mk ((by rw [hg]; exact (below_size (by repeat (first | (with_reducible first | exact HB.out | apply below_alloc | apply pw_below_drewN | apply below_drew1 | refine below_set ?_ GE116.out | refine below_set ?_ GE125.out) | exact HB.out))) : w.heap.size ≤ gb134)); have n13_ := Aside0.mk ((by rw [hg]; exact Nat.ne_of_lt (blk_lt (g := gb116) (o := .cells #[.int .i64 t108, .slice Ao26 t109.length co26, .slice Ao27 t112.length co27] 35 (0, 0)) (by (with_reducible repeat (first | refine blk_drewN ?_ _ | refine blk_drew ?_ | refine blk_alloc ?_ _)); exact BK116.out)) : gb116 ≠ gb134)); have n14_ := Aside0.mk ((by rw [hg]; exact Nat.ne_of_gt (blk_lt (g := gb116) (o := .cells #[.int .i64 t108, .slice Ao26 t109.length co26, .slice Ao27 t112.length co27] 35 (0, 0)) (by (with_reducible repeat (first | refine blk_drewN ?_ _ | refine blk_drew ?_ | refine blk_alloc ?_ _)); exact BK116.out)) : gb134 ≠ gb116)); have n15_ := Aside0.mk ((by rw [hg]; exact Nat.ne_of_lt (blk_lt (g := gb125) (o := .cells #[.int .i64 t117, .slice Ao32 t118.length co32, .slice Ao33 t121.length co33] 35 (0, 0)) (by (with_reducible repeat (first | refine blk_drewN ?_ _ | refine blk_drew ?_ | refine blk_alloc ?_ _)); exact BK125.out)) : gb125 ≠ gb134)); have n16_ := Aside0.mk ((by rw [hg]; exact Nat.ne_of_gt (blk_lt (g := gb125) (o := .cells #[.int .i64 t117, .slice Ao32 t118.length co32, .slice Ao33 t121.length co33] 35 (0, 0)) (by (with_reducible repeat (first | refine blk_drewN ?_ _ | refine blk_drew ?_ | refine blk_alloc ?_ _)); exact BK125.out)) : gb134 ≠ gb125)); clear HO104; clear HO111; clear HO114; clear HO120; clear HO123; clear HO129; clear HO132; clear BK116; clear BK125; clear HB; have HO104 := n0_; have HO111 := n1_; have HO114 := n2_; have HO120 := n3_; have HO123 := n4_; have HO129 := n5_; have HO132 := n6_; have BK116 := n7_; have BK125 := n8_; have HB := n9_; have BK134 := n10_; have GW134 := n11_; have GE134 := n12_; have NB116_134 := n13_; have NB134_116 := n14_; have NB125_134 := n15_; have NB134_125 := n16_; clear n0_ n1_ n2_ n3_ n4_ n5_ n6_ n7_ n8_ n9_ n10_ n11_ n12_ n13_ n14_ n15_ n16_; clear hb hbox hg; have hnb36 := NB134_116.out; have hnc36 := NB116_134.out; have hnb37 := NB134_125.out; have hnc37 := NB125_134.out; have hcz38_0 : w35.cell? ⟨gb134, 0, none⟩ = some (.int .i64 0) := (blk_cell BK134.out 0).trans rfl; have hcz38_1 : w35.cell? ⟨gb134, 1, none⟩ = some (.slice none 0 0) := (blk_cell BK134.out 1).trans rfl; have hcz38_2 : w35.cell? ⟨gb134, 2, none⟩ = some (.slice none 0 0) := (blk_cell BK134.out 2).trans rfl; have hfz38_0 := blk_frozen BK134.out 0; have hfz38_1 := blk_frozen BK134.out 1; have hfz38_2 := blk_frozen BK134.out 2; obtain ⟨Ao39, co39, eo39⟩ := Kd.R_slice HO129.out; subst eo39; obtain ⟨Ao40, co40, eo40⟩ := Kd.R_slice HO132.out; subst eo40))
        (try simp only [Act.put, List.setIfInBounds_toArray, List.set_cons_zero, List.set_cons_succ])
        go_cut [106] (fun v106 wc => ∃ (kq : Nat) (x106_15 : Bool), v106 = .bool x106_15 ∧ Aside0 (planispherelaw02_SealVerifies.j0 kq a3 t101 t106 x106_15 t108 t109 t112 t126 t127 t130 = some r) ∧ Aside0 (kq ≤ k) ∧ Aside0 (Kd.R Kd.string 9 wc w.heap.size (fun k_ => some k_ ≠ ((.slice Ao27 t112.length co27) : Value).ownBlock ∧ some k_ ≠ ((.slice Ao32 t118.length co32) : Value).ownBlock ∧ some k_ ≠ ((.slice Ao33 t121.length co33) : Value).ownBlock ∧ some k_ ≠ ((.slice Ao39 t127.length co39) : Value).ownBlock ∧ some k_ ≠ ((.slice Ao40 t130.length co40) : Value).ownBlock) (.slice Ao26 t109.length co26) t109) ∧ Aside0 (Kd.R Kd.string 9 wc w.heap.size (fun k_ => some k_ ≠ ((.slice Ao26 t109.length co26) : Value).ownBlock ∧ some k_ ≠ ((.slice Ao32 t118.length co32) : Value).ownBlock ∧ some k_ ≠ ((.slice Ao33 t121.length co33) : Value).ownBlock ∧ some k_ ≠ ((.slice Ao39 t127.length co39) : Value).ownBlock ∧ some k_ ≠ ((.slice Ao40 t130.length co40) : Value).ownBlock) (.slice Ao27 t112.length co27) t112) ∧ Aside0 (Kd.R Kd.string 9 wc w.heap.size (fun k_ => some k_ ≠ ((.slice Ao26 t109.length co26) : Value).ownBlock ∧ some k_ ≠ ((.slice Ao27 t112.length co27) : Value).ownBlock ∧ some k_ ≠ ((.slice Ao33 t121.length co33) : Value).ownBlock ∧ some k_ ≠ ((.slice Ao39 t127.length co39) : Value).ownBlock ∧ some k_ ≠ ((.slice Ao40 t130.length co40) : Value).ownBlock) (.slice Ao32 t118.length co32) t118) ∧ Aside0 (Kd.R Kd.string 9 wc w.heap.size (fun k_ => some k_ ≠ ((.slice Ao26 t109.length co26) : Value).ownBlock ∧ some k_ ≠ ((.slice Ao27 t112.length co27) : Value).ownBlock ∧ some k_ ≠ ((.slice Ao32 t118.length co32) : Value).ownBlock ∧ some k_ ≠ ((.slice Ao39 t127.length co39) : Value).ownBlock ∧ some k_ ≠ ((.slice Ao40 t130.length co40) : Value).ownBlock) (.slice Ao33 t121.length co33) t121) ∧ Aside0 (Kd.R Kd.string 9 wc w.heap.size (fun k_ => some k_ ≠ ((.slice Ao26 t109.length co26) : Value).ownBlock ∧ some k_ ≠ ((.slice Ao27 t112.length co27) : Value).ownBlock ∧ some k_ ≠ ((.slice Ao32 t118.length co32) : Value).ownBlock ∧ some k_ ≠ ((.slice Ao33 t121.length co33) : Value).ownBlock ∧ some k_ ≠ ((.slice Ao40 t130.length co40) : Value).ownBlock) (.slice Ao39 t127.length co39) t127) ∧ Aside0 (Kd.R Kd.string 9 wc w.heap.size (fun k_ => some k_ ≠ ((.slice Ao26 t109.length co26) : Value).ownBlock ∧ some k_ ≠ ((.slice Ao27 t112.length co27) : Value).ownBlock ∧ some k_ ≠ ((.slice Ao32 t118.length co32) : Value).ownBlock ∧ some k_ ≠ ((.slice Ao33 t121.length co33) : Value).ownBlock ∧ some k_ ≠ ((.slice Ao39 t127.length co39) : Value).ownBlock) (.slice Ao40 t130.length co40) t130) ∧ Aside0 (wc.heap[gb116]? = some (.cells #[.int .i64 t108, (.slice Ao26 t109.length co26), (.slice Ao27 t112.length co27)] 35 (0, 0))) ∧ Aside0 (wc.heap[gb125]? = some (.cells #[.int .i64 t117, (.slice Ao32 t118.length co32), (.slice Ao33 t121.length co33)] 35 (0, 0))) ∧ Aside0 (wc.heap[gb134]? = some (.cells #[.int .i64 t126, (.slice Ao39 t127.length co39), (.slice Ao40 t130.length co40)] 35 (0, 0))) ∧ Aside0 (Below w.heap.size w wc))
        case first =>
          have H := HC16.out
          clear HC16
          by_cases c41 : t107 = 0
          · rw [if_pos c41] at H
            have c41b0 : (t107 == 0) = true := beq_iff_eq.mpr c41
            have c41b1 : (t107 != 0) = false := bne_eq_false_iff_eq.mpr c41
            clear c41
            (first | rw [c41b0] | (simp only [i64_w, i32_w]; rw [c41b0]) | skip)
            by_cases c42 : t115 = 0
            · rw [if_pos c42] at H
              have c42b0 : (t115 == 0) = true := beq_iff_eq.mpr c42
              have c42b1 : (t115 != 0) = false := bne_eq_false_iff_eq.mpr c42
              clear c42
              by_cases c43 : t124 = 0
              · rw [if_pos c43] at H
                have c43b0 : (t124 == 0) = true := beq_iff_eq.mpr c43
                have c43b1 : (t124 != 0) = false := bne_eq_false_iff_eq.mpr c43
                clear c43
                by_cases c44 : t133 = 0
                · rw [if_pos c44] at H
                  have c44b0 : (t133 == 0) = true := beq_iff_eq.mpr c44
                  have c44b1 : (t133 != 0) = false := bne_eq_false_iff_eq.mpr c44
                  clear c44
                  by_cases c45 : t108 = (Int.tmod (wrap64 (a2)) (ji10))
                  · rw [if_pos c45] at H
                    have c45b0 : (t108 == (Int.tmod (wrap64 (a2)) (ji10))) = true := beq_iff_eq.mpr c45
                    have c45b1 : (t108 != (Int.tmod (wrap64 (a2)) (ji10))) = false := bne_eq_false_iff_eq.mpr c45
                    clear c45
                    by_cases c46 : (t109.length : Int) = 18
                    · rw [if_pos c46] at H
                      have c46b0 : ((t109.length : Int) == 18) = true := beq_iff_eq.mpr c46
                      have c46b1 : ((t109.length : Int) != 18) = false := bne_eq_false_iff_eq.mpr c46
                      clear c46
                      by_cases c47 : (t112.length : Int) = (ji8)
                      · rw [if_pos c47] at H
                        have c47b0 : ((t112.length : Int) == (ji8)) = true := beq_iff_eq.mpr c47
                        have c47b1 : ((t112.length : Int) != (ji8)) = false := bne_eq_false_iff_eq.mpr c47
                        clear c47
                        replace H := Option.bind_eq_some_iff.mp H
                        obtain ⟨t135, A480, H⟩ := H
                        replace H : (planispherelaw02_SealVerifies.j0 k a3 t101 t106 (!t135) t108 t109 t112 t126 t127 t130) = some r := H
                        have A48 := Aside0.mk A480
                        clear A480
                        have H' := Aside0.mk H
                        clear H
                        have hnb49 := NB116_125.out
                        have hnc49 := NB125_116.out
                        have hnb50 := NB116_134.out
                        have hnc50 := NB134_116.out
                        have hcz51_0 : w35.cell? ⟨gb116, 0, none⟩ = some (.int .i64 t108) := (blk_cell BK116.out 0).trans rfl
                        have hcz51_1 : w35.cell? ⟨gb116, 1, none⟩ = some (.slice Ao26 t109.length co26) := (blk_cell BK116.out 1).trans rfl
                        have hcz51_2 : w35.cell? ⟨gb116, 2, none⟩ = some (.slice Ao27 t112.length co27) := (blk_cell BK116.out 2).trans rfl
                        have hfz51_0 := blk_frozen BK116.out 0
                        have hfz51_1 := blk_frozen BK116.out 1
                        have hfz51_2 := blk_frozen BK116.out 2
                        have hnb52 := NB125_134.out
                        have hnc52 := NB134_125.out
                        have hcz53_0 : w35.cell? ⟨gb125, 0, none⟩ = some (.int .i64 t117) := (blk_cell BK125.out 0).trans rfl
                        have hcz53_1 : w35.cell? ⟨gb125, 1, none⟩ = some (.slice Ao32 t118.length co32) := (blk_cell BK125.out 1).trans rfl
                        have hcz53_2 : w35.cell? ⟨gb125, 2, none⟩ = some (.slice Ao33 t121.length co33) := (blk_cell BK125.out 2).trans rfl
                        have hfz53_0 := blk_frozen BK125.out 0
                        have hfz53_1 := blk_frozen BK125.out 1
                        have hfz53_2 := blk_frozen BK125.out 2
                        go_wp2_with (first | (go_at_call 32; (with_reducible refine (planisphereref02_Same.calls t108 _ _ t109 _ _ t112 t117 _ _ t118 _ _ t121 t135 _ ?side1 ?side2 ?side3 ?side4 ?side5 ?side6 ?side7 ?side8 A48.out).mono ?_); clear A48; (case side1 => refine (Kd.R_reads' (e := 9) (base := w.heap.size) (ok := fun k_ => (((((some k_ ≠ (.slice Ao27 t112.length co27 : Value).ownBlock ∧ some k_ ≠ (.slice Ao20 y102.length co20 : Value).ownBlock) ∧ some k_ ≠ (.slice Ao32 t118.length co32 : Value).ownBlock) ∧ some k_ ≠ (.slice Ao33 t121.length co33 : Value).ownBlock) ∧ some k_ ≠ (.slice Ao39 t127.length co39 : Value).ownBlock) ∧ some k_ ≠ (.slice Ao40 t130.length co40 : Value).ownBlock)) (n := t109.length) (c := co26) ?_).2.2; exact (by (with_reducible repeat (first | apply Kd.R_alloc | apply Kd.R_drewN | apply Kd.R_drew)); exact (Kd.R_mono (Kd.R_far (p := ⟨gb134, 2, none⟩) (Kd.R_far (p := ⟨gb134, 1, none⟩) (Kd.R_far (p := ⟨gb134, 0, none⟩) (Kd.R_types HO111.out BK134.out (by decide)) (fun _ hk => hk.2) (.int .i64 t126)) (fun _ hk => hk.2) (.slice Ao39 t127.length co39)) (fun _ hk => hk.2) (.slice Ao40 t130.length co40)) (fun _ h_ => h_.1)))); (case side2 => exact (Kd.R_reads' HO111.out).2.1); (case side3 => refine (Kd.R_reads' (e := 9) (base := w.heap.size) (ok := fun k_ => (((((some k_ ≠ (.slice Ao26 t109.length co26 : Value).ownBlock ∧ some k_ ≠ (.slice Ao20 y102.length co20 : Value).ownBlock) ∧ some k_ ≠ (.slice Ao32 t118.length co32 : Value).ownBlock) ∧ some k_ ≠ (.slice Ao33 t121.length co33 : Value).ownBlock) ∧ some k_ ≠ (.slice Ao39 t127.length co39 : Value).ownBlock) ∧ some k_ ≠ (.slice Ao40 t130.length co40 : Value).ownBlock)) (n := t112.length) (c := co27) ?_).2.2; exact (by (with_reducible repeat (first | apply Kd.R_alloc | apply Kd.R_drewN | apply Kd.R_drew)); exact (Kd.R_mono (Kd.R_far (p := ⟨gb134, 2, none⟩) (Kd.R_far (p := ⟨gb134, 1, none⟩) (Kd.R_far (p := ⟨gb134, 0, none⟩) (Kd.R_types HO114.out BK134.out (by decide)) (fun _ hk => hk.2) (.int .i64 t126)) (fun _ hk => hk.2) (.slice Ao39 t127.length co39)) (fun _ hk => hk.2) (.slice Ao40 t130.length co40)) (fun _ h_ => h_.1)))); (case side4 => exact (Kd.R_reads' HO114.out).2.1); (case side5 => refine (Kd.R_reads' (e := 9) (base := w.heap.size) (ok := fun k_ => (((((some k_ ≠ (.slice Ao33 t121.length co33 : Value).ownBlock ∧ some k_ ≠ (.slice Ao20 y102.length co20 : Value).ownBlock) ∧ some k_ ≠ (.slice Ao26 t109.length co26 : Value).ownBlock) ∧ some k_ ≠ (.slice Ao27 t112.length co27 : Value).ownBlock) ∧ some k_ ≠ (.slice Ao39 t127.length co39 : Value).ownBlock) ∧ some k_ ≠ (.slice Ao40 t130.length co40 : Value).ownBlock)) (n := t118.length) (c := co32) ?_).2.2; exact (by (with_reducible repeat (first | apply Kd.R_alloc | apply Kd.R_drewN | apply Kd.R_drew)); exact (Kd.R_mono (Kd.R_far (p := ⟨gb134, 2, none⟩) (Kd.R_far (p := ⟨gb134, 1, none⟩) (Kd.R_far (p := ⟨gb134, 0, none⟩) (Kd.R_types HO120.out BK134.out (by decide)) (fun _ hk => hk.2) (.int .i64 t126)) (fun _ hk => hk.2) (.slice Ao39 t127.length co39)) (fun _ hk => hk.2) (.slice Ao40 t130.length co40)) (fun _ h_ => h_.1)))); (case side6 => exact (Kd.R_reads' HO120.out).2.1); (case side7 => refine (Kd.R_reads' (e := 9) (base := w.heap.size) (ok := fun k_ => (((((some k_ ≠ (.slice Ao32 t118.length co32 : Value).ownBlock ∧ some k_ ≠ (.slice Ao20 y102.length co20 : Value).ownBlock) ∧ some k_ ≠ (.slice Ao26 t109.length co26 : Value).ownBlock) ∧ some k_ ≠ (.slice Ao27 t112.length co27 : Value).ownBlock) ∧ some k_ ≠ (.slice Ao39 t127.length co39 : Value).ownBlock) ∧ some k_ ≠ (.slice Ao40 t130.length co40 : Value).ownBlock)) (n := t121.length) (c := co33) ?_).2.2; exact (by (with_reducible repeat (first | apply Kd.R_alloc | apply Kd.R_drewN | apply Kd.R_drew)); exact (Kd.R_mono (Kd.R_far (p := ⟨gb134, 2, none⟩) (Kd.R_far (p := ⟨gb134, 1, none⟩) (Kd.R_far (p := ⟨gb134, 0, none⟩) (Kd.R_types HO123.out BK134.out (by decide)) (fun _ hk => hk.2) (.int .i64 t126)) (fun _ hk => hk.2) (.slice Ao39 t127.length co39)) (fun _ hk => hk.2) (.slice Ao40 t130.length co40)) (fun _ h_ => h_.1)))); (case side8 => exact (Kd.R_reads' HO123.out).2.1); rintro e w54 ⟨rfl, hb⟩; have n0_ := Aside0.mk (Kd.R_below (by (with_reducible repeat (first | apply Kd.R_alloc | apply Kd.R_drewN | apply Kd.R_drew)); exact (Kd.R_mono (Kd.R_far (p := ⟨gb134, 2, none⟩) (Kd.R_far (p := ⟨gb134, 1, none⟩) (Kd.R_far (p := ⟨gb134, 0, none⟩) (Kd.R_types HO104.out BK134.out (by decide)) (fun _ hk => hk.2) (.int .i64 t126)) (fun _ hk => hk.2) (.slice Ao39 t127.length co39)) (fun _ hk => hk.2) (.slice Ao40 t130.length co40)) (fun _ h_ => h_.1))) hb); have n1_ := Aside0.mk (Kd.R_below (by (with_reducible repeat (first | apply Kd.R_alloc | apply Kd.R_drewN | apply Kd.R_drew)); exact (Kd.R_mono (Kd.R_far (p := ⟨gb134, 2, none⟩) (Kd.R_far (p := ⟨gb134, 1, none⟩) (Kd.R_far (p := ⟨gb134, 0, none⟩) (Kd.R_types HO111.out BK134.out (by decide)) (fun _ hk => hk.2) (.int .i64 t126)) (fun _ hk => hk.2) (.slice Ao39 t127.length co39)) (fun _ hk => hk.2) (.slice Ao40 t130.length co40)) (fun _ h_ => h_.1))) hb); have n2_ := Aside0.mk (Kd.R_below (by (with_reducible repeat (first | apply Kd.R_alloc | apply Kd.R_drewN | apply Kd.R_drew)); exact (Kd.R_mono (Kd.R_far (p := ⟨gb134, 2, none⟩) (Kd.R_far (p := ⟨gb134, 1, none⟩) (Kd.R_far (p := ⟨gb134, 0, none⟩) (Kd.R_types HO114.out BK134.out (by decide)) (fun _ hk => hk.2) (.int .i64 t126)) (fun _ hk => hk.2) (.slice Ao39 t127.length co39)) (fun _ hk => hk.2) (.slice Ao40 t130.length co40)) (fun _ h_ => h_.1))) hb); have n3_ := Aside0.mk (Kd.R_below (by (with_reducible repeat (first | apply Kd.R_alloc | apply Kd.R_drewN | apply Kd.R_drew)); exact (Kd.R_mono (Kd.R_far (p := ⟨gb134, 2, none⟩) (Kd.R_far (p := ⟨gb134, 1, none⟩) (Kd.R_far (p := ⟨gb134, 0, none⟩) (Kd.R_types HO120.out BK134.out (by decide)) (fun _ hk => hk.2) (.int .i64 t126)) (fun _ hk => hk.2) (.slice Ao39 t127.length co39)) (fun _ hk => hk.2) (.slice Ao40 t130.length co40)) (fun _ h_ => h_.1))) hb); have n4_ := Aside0.mk (Kd.R_below (by (with_reducible repeat (first | apply Kd.R_alloc | apply Kd.R_drewN | apply Kd.R_drew)); exact (Kd.R_mono (Kd.R_far (p := ⟨gb134, 2, none⟩) (Kd.R_far (p := ⟨gb134, 1, none⟩) (Kd.R_far (p := ⟨gb134, 0, none⟩) (Kd.R_types HO123.out BK134.out (by decide)) (fun _ hk => hk.2) (.int .i64 t126)) (fun _ hk => hk.2) (.slice Ao39 t127.length co39)) (fun _ hk => hk.2) (.slice Ao40 t130.length co40)) (fun _ h_ => h_.1))) hb); have n5_ := Aside0.mk (Kd.R_below (by (with_reducible repeat (first | apply Kd.R_alloc | apply Kd.R_drewN | apply Kd.R_drew)); exact (Kd.R_mono (Kd.R_far (p := ⟨gb134, 2, none⟩) (Kd.R_far (p := ⟨gb134, 1, none⟩) (Kd.R_far (p := ⟨gb134, 0, none⟩) (Kd.R_types HO129.out BK134.out (by decide)) (fun _ hk => hk.2) (.int .i64 t126)) (fun _ hk => hk.2) (.slice Ao39 t127.length co39)) (fun _ hk => hk.2) (.slice Ao40 t130.length co40)) (fun _ h_ => h_.1))) hb); have n6_ := Aside0.mk (Kd.R_below (by (with_reducible repeat (first | apply Kd.R_alloc | apply Kd.R_drewN | apply Kd.R_drew)); exact (Kd.R_mono (Kd.R_far (p := ⟨gb134, 2, none⟩) (Kd.R_far (p := ⟨gb134, 1, none⟩) (Kd.R_far (p := ⟨gb134, 0, none⟩) (Kd.R_types HO132.out BK134.out (by decide)) (fun _ hk => hk.2) (.int .i64 t126)) (fun _ hk => hk.2) (.slice Ao39 t127.length co39)) (fun _ hk => hk.2) (.slice Ao40 t130.length co40)) (fun _ h_ => h_.1))) hb); have n7_ := Aside0.mk (blk_below (g := gb116) (o := .cells #[.int .i64 t108, .slice Ao26 t109.length co26, .slice Ao27 t112.length co27] 35 (0, 0)) (by (with_reducible repeat (first | refine blk_drewN ?_ _ | refine blk_drew ?_ | refine blk_alloc ?_ _)); refine blk_far ?_ NB116_134.out _; (with_reducible repeat (first | refine blk_drewN ?_ _ | refine blk_drew ?_ | refine blk_alloc ?_ _)); refine blk_far ?_ NB116_134.out _; (with_reducible repeat (first | refine blk_drewN ?_ _ | refine blk_drew ?_ | refine blk_alloc ?_ _)); refine blk_far ?_ NB116_134.out _; (with_reducible repeat (first | refine blk_drewN ?_ _ | refine blk_drew ?_ | refine blk_alloc ?_ _)); exact BK116.out) hb); have n8_ := Aside0.mk (blk_below (g := gb125) (o := .cells #[.int .i64 t117, .slice Ao32 t118.length co32, .slice Ao33 t121.length co33] 35 (0, 0)) (by (with_reducible repeat (first | refine blk_drewN ?_ _ | refine blk_drew ?_ | refine blk_alloc ?_ _)); refine blk_far ?_ NB125_134.out _; (with_reducible repeat (first | refine blk_drewN ?_ _ | refine blk_drew ?_ | refine blk_alloc ?_ _)); refine blk_far ?_ NB125_134.out _; (with_reducible repeat (first | refine blk_drewN ?_ _ | refine blk_drew ?_ | refine blk_alloc ?_ _)); refine blk_far ?_ NB125_134.out _; (with_reducible repeat (first | refine blk_drewN ?_ _ | refine blk_drew ?_ | refine blk_alloc ?_ _)); exact BK125.out) hb); have n9_ := Aside0.mk (blk_below (g := gb134) (o := .cells #[.int .i64 t126, .slice Ao39 t127.length co39, .slice Ao40 t130.length co40] 35 (0, 0)) (by (with_reducible repeat (first | refine blk_drewN ?_ _ | refine blk_drew ?_ | refine blk_alloc ?_ _)); refine blk_put (cs := #[.int .i64 t126, .slice Ao39 t127.length co39, .slice none 0 0]) ?_ 2 _ rfl; (with_reducible repeat (first | refine blk_drewN ?_ _ | refine blk_drew ?_ | refine blk_alloc ?_ _)); refine blk_put (cs := #[.int .i64 t126, .slice none 0 0, .slice none 0 0]) ?_ 1 _ rfl; (with_reducible repeat (first | refine blk_drewN ?_ _ | refine blk_drew ?_ | refine blk_alloc ?_ _)); refine blk_put (cs := #[.int .i64 0, .slice none 0 0, .slice none 0 0]) ?_ 0 _ rfl; (with_reducible repeat (first | refine blk_drewN ?_ _ | refine blk_drew ?_ | refine blk_alloc ?_ _)); exact BK134.out) hb); have n10_ := Aside0.mk (below_step (by repeat (first | (with_reducible first | exact HB.out | apply below_alloc | apply pw_below_drewN | apply below_drew1 | refine below_set ?_ GE116.out | refine below_set ?_ GE125.out | refine below_set ?_ GE134.out) | exact HB.out)) hb); clear HO104; clear HO111; clear HO114; clear HO120; clear HO123; clear HO129; clear HO132; clear BK116; clear BK125; clear BK134; clear HB; have HO104 := n0_; have HO111 := n1_; have HO114 := n2_; have HO120 := n3_; have HO123 := n4_; have HO129 := n5_; have HO132 := n6_; have BK116 := n7_; have BK125 := n8_; have BK134 := n9_; have HB := n10_; clear n0_ n1_ n2_ n3_ n4_ n5_ n6_ n7_ n8_ n9_ n10_; (try clear hb); (try clear hb2); (try clear hk); (try clear hi)))
                        go_meet
                        case rel => exact ⟨_, (!t135), (by first | rfl | (simp; done) | (simp [*]; done)), H', ⟨by first | omega | exact Nat.le_refl _⟩, ⟨by (with_reducible repeat (first | apply Kd.R_alloc | apply Kd.R_drewN | apply Kd.R_drew)); exact Kd.R_mono HO111.out (fun _ hk => ⟨hk.1.1.1.1.1, ⟨hk.1.1.1.2, ⟨hk.1.1.2, ⟨hk.1.2, hk.2⟩⟩⟩⟩)⟩, ⟨by (with_reducible repeat (first | apply Kd.R_alloc | apply Kd.R_drewN | apply Kd.R_drew)); exact Kd.R_mono HO114.out (fun _ hk => ⟨hk.1.1.1.1.1, ⟨hk.1.1.1.2, ⟨hk.1.1.2, ⟨hk.1.2, hk.2⟩⟩⟩⟩)⟩, ⟨by (with_reducible repeat (first | apply Kd.R_alloc | apply Kd.R_drewN | apply Kd.R_drew)); exact Kd.R_mono HO120.out (fun _ hk => ⟨hk.1.1.1.2, ⟨hk.1.1.2, ⟨hk.1.1.1.1.1, ⟨hk.1.2, hk.2⟩⟩⟩⟩)⟩, ⟨by (with_reducible repeat (first | apply Kd.R_alloc | apply Kd.R_drewN | apply Kd.R_drew)); exact Kd.R_mono HO123.out (fun _ hk => ⟨hk.1.1.1.2, ⟨hk.1.1.2, ⟨hk.1.1.1.1.1, ⟨hk.1.2, hk.2⟩⟩⟩⟩)⟩, ⟨by (with_reducible repeat (first | apply Kd.R_alloc | apply Kd.R_drewN | apply Kd.R_drew)); exact Kd.R_mono HO129.out (fun _ hk => ⟨hk.1.1.1.2, ⟨hk.1.1.2, ⟨hk.1.2, ⟨hk.2, hk.1.1.1.1.1⟩⟩⟩⟩)⟩, ⟨by (with_reducible repeat (first | apply Kd.R_alloc | apply Kd.R_drewN | apply Kd.R_drew)); exact Kd.R_mono HO132.out (fun _ hk => ⟨hk.1.1.1.2, ⟨hk.1.1.2, ⟨hk.1.2, ⟨hk.2, hk.1.1.1.1.1⟩⟩⟩⟩)⟩, ⟨by (with_reducible repeat (first | refine blk_drewN ?_ _ | refine blk_drew ?_ | refine blk_alloc ?_ _)); exact BK116.out⟩, ⟨by (with_reducible repeat (first | refine blk_drewN ?_ _ | refine blk_drew ?_ | refine blk_alloc ?_ _)); exact BK125.out⟩, ⟨by (with_reducible repeat (first | refine blk_drewN ?_ _ | refine blk_drew ?_ | refine blk_alloc ?_ _)); exact BK134.out⟩, ⟨by repeat (first | (with_reducible first | exact HB.out | apply below_alloc | apply pw_below_drewN | apply below_drew1 | refine below_set ?_ GE116.out | refine below_set ?_ GE125.out | refine below_set ?_ GE134.out) | exact HB.out)⟩⟩
                      · rw [if_neg c47] at H
                        have c47b0 : ((t112.length : Int) == (ji8)) = false := beq_eq_false_iff_ne.mpr c47
                        have c47b1 : ((t112.length : Int) != (ji8)) = true := bne_iff_ne.mpr c47
                        have H' := Aside0.mk H
                        clear H
                        have hnb55 := NB116_125.out
                        have hnc55 := NB125_116.out
                        have hnb56 := NB116_134.out
                        have hnc56 := NB134_116.out
                        have hcz57_0 : w35.cell? ⟨gb116, 0, none⟩ = some (.int .i64 t108) := (blk_cell BK116.out 0).trans rfl
                        have hcz57_1 : w35.cell? ⟨gb116, 1, none⟩ = some (.slice Ao26 t109.length co26) := (blk_cell BK116.out 1).trans rfl
                        have hcz57_2 : w35.cell? ⟨gb116, 2, none⟩ = some (.slice Ao27 t112.length co27) := (blk_cell BK116.out 2).trans rfl
                        have hfz57_0 := blk_frozen BK116.out 0
                        have hfz57_1 := blk_frozen BK116.out 1
                        have hfz57_2 := blk_frozen BK116.out 2
                        go_wp2
                        go_meet
                        case rel => exact ⟨_, (true), (by first | rfl | (simp; done) | (simp [*]; done)), H', ⟨by first | omega | exact Nat.le_refl _⟩, ⟨by (with_reducible repeat (first | apply Kd.R_alloc | apply Kd.R_drewN | apply Kd.R_drew)); exact Kd.R_mono (Kd.R_far (p := ⟨gb134, 2, none⟩) (Kd.R_far (p := ⟨gb134, 1, none⟩) (Kd.R_far (p := ⟨gb134, 0, none⟩) (Kd.R_types HO111.out BK134.out (by decide)) (fun _ hk => hk.2) (.int .i64 t126)) (fun _ hk => hk.2) (.slice Ao39 t127.length co39)) (fun _ hk => hk.2) (.slice Ao40 t130.length co40)) (fun _ hk => ⟨hk.1.1.1.1.1.1, ⟨hk.1.1.1.1.2, ⟨hk.1.1.1.2, ⟨hk.1.1.2, hk.1.2⟩⟩⟩⟩)⟩, ⟨by (with_reducible repeat (first | apply Kd.R_alloc | apply Kd.R_drewN | apply Kd.R_drew)); exact Kd.R_mono (Kd.R_far (p := ⟨gb134, 2, none⟩) (Kd.R_far (p := ⟨gb134, 1, none⟩) (Kd.R_far (p := ⟨gb134, 0, none⟩) (Kd.R_types HO114.out BK134.out (by decide)) (fun _ hk => hk.2) (.int .i64 t126)) (fun _ hk => hk.2) (.slice Ao39 t127.length co39)) (fun _ hk => hk.2) (.slice Ao40 t130.length co40)) (fun _ hk => ⟨hk.1.1.1.1.1.1, ⟨hk.1.1.1.1.2, ⟨hk.1.1.1.2, ⟨hk.1.1.2, hk.1.2⟩⟩⟩⟩)⟩, ⟨by (with_reducible repeat (first | apply Kd.R_alloc | apply Kd.R_drewN | apply Kd.R_drew)); exact Kd.R_mono (Kd.R_far (p := ⟨gb134, 2, none⟩) (Kd.R_far (p := ⟨gb134, 1, none⟩) (Kd.R_far (p := ⟨gb134, 0, none⟩) (Kd.R_types HO120.out BK134.out (by decide)) (fun _ hk => hk.2) (.int .i64 t126)) (fun _ hk => hk.2) (.slice Ao39 t127.length co39)) (fun _ hk => hk.2) (.slice Ao40 t130.length co40)) (fun _ hk => ⟨hk.1.1.1.1.2, ⟨hk.1.1.1.2, ⟨hk.1.1.1.1.1.1, ⟨hk.1.1.2, hk.1.2⟩⟩⟩⟩)⟩, ⟨by (with_reducible repeat (first | apply Kd.R_alloc | apply Kd.R_drewN | apply Kd.R_drew)); exact Kd.R_mono (Kd.R_far (p := ⟨gb134, 2, none⟩) (Kd.R_far (p := ⟨gb134, 1, none⟩) (Kd.R_far (p := ⟨gb134, 0, none⟩) (Kd.R_types HO123.out BK134.out (by decide)) (fun _ hk => hk.2) (.int .i64 t126)) (fun _ hk => hk.2) (.slice Ao39 t127.length co39)) (fun _ hk => hk.2) (.slice Ao40 t130.length co40)) (fun _ hk => ⟨hk.1.1.1.1.2, ⟨hk.1.1.1.2, ⟨hk.1.1.1.1.1.1, ⟨hk.1.1.2, hk.1.2⟩⟩⟩⟩)⟩, ⟨by (with_reducible repeat (first | apply Kd.R_alloc | apply Kd.R_drewN | apply Kd.R_drew)); exact Kd.R_mono (Kd.R_far (p := ⟨gb134, 2, none⟩) (Kd.R_far (p := ⟨gb134, 1, none⟩) (Kd.R_far (p := ⟨gb134, 0, none⟩) (Kd.R_types HO129.out BK134.out (by decide)) (fun _ hk => hk.2) (.int .i64 t126)) (fun _ hk => hk.2) (.slice Ao39 t127.length co39)) (fun _ hk => hk.2) (.slice Ao40 t130.length co40)) (fun _ hk => ⟨hk.1.1.1.1.2, ⟨hk.1.1.1.2, ⟨hk.1.1.2, ⟨hk.1.2, hk.1.1.1.1.1.1⟩⟩⟩⟩)⟩, ⟨by (with_reducible repeat (first | apply Kd.R_alloc | apply Kd.R_drewN | apply Kd.R_drew)); exact Kd.R_mono (Kd.R_far (p := ⟨gb134, 2, none⟩) (Kd.R_far (p := ⟨gb134, 1, none⟩) (Kd.R_far (p := ⟨gb134, 0, none⟩) (Kd.R_types HO132.out BK134.out (by decide)) (fun _ hk => hk.2) (.int .i64 t126)) (fun _ hk => hk.2) (.slice Ao39 t127.length co39)) (fun _ hk => hk.2) (.slice Ao40 t130.length co40)) (fun _ hk => ⟨hk.1.1.1.1.2, ⟨hk.1.1.1.2, ⟨hk.1.1.2, ⟨hk.1.2, hk.1.1.1.1.1.1⟩⟩⟩⟩)⟩, ⟨by (with_reducible repeat (first | refine blk_drewN ?_ _ | refine blk_drew ?_ | refine blk_alloc ?_ _)); refine blk_far ?_ NB116_134.out _; (with_reducible repeat (first | refine blk_drewN ?_ _ | refine blk_drew ?_ | refine blk_alloc ?_ _)); refine blk_far ?_ NB116_134.out _; (with_reducible repeat (first | refine blk_drewN ?_ _ | refine blk_drew ?_ | refine blk_alloc ?_ _)); refine blk_far ?_ NB116_134.out _; (with_reducible repeat (first | refine blk_drewN ?_ _ | refine blk_drew ?_ | refine blk_alloc ?_ _)); exact BK116.out⟩, ⟨by (with_reducible repeat (first | refine blk_drewN ?_ _ | refine blk_drew ?_ | refine blk_alloc ?_ _)); refine blk_far ?_ NB125_134.out _; (with_reducible repeat (first | refine blk_drewN ?_ _ | refine blk_drew ?_ | refine blk_alloc ?_ _)); refine blk_far ?_ NB125_134.out _; (with_reducible repeat (first | refine blk_drewN ?_ _ | refine blk_drew ?_ | refine blk_alloc ?_ _)); refine blk_far ?_ NB125_134.out _; (with_reducible repeat (first | refine blk_drewN ?_ _ | refine blk_drew ?_ | refine blk_alloc ?_ _)); exact BK125.out⟩, ⟨by (with_reducible repeat (first | refine blk_drewN ?_ _ | refine blk_drew ?_ | refine blk_alloc ?_ _)); refine blk_put (cs := #[.int .i64 t126, .slice Ao39 t127.length co39, .slice none 0 0]) ?_ 2 _ rfl; (with_reducible repeat (first | refine blk_drewN ?_ _ | refine blk_drew ?_ | refine blk_alloc ?_ _)); refine blk_put (cs := #[.int .i64 t126, .slice none 0 0, .slice none 0 0]) ?_ 1 _ rfl; (with_reducible repeat (first | refine blk_drewN ?_ _ | refine blk_drew ?_ | refine blk_alloc ?_ _)); refine blk_put (cs := #[.int .i64 0, .slice none 0 0, .slice none 0 0]) ?_ 0 _ rfl; (with_reducible repeat (first | refine blk_drewN ?_ _ | refine blk_drew ?_ | refine blk_alloc ?_ _)); exact BK134.out⟩, ⟨by repeat (first | (with_reducible first | exact HB.out | apply below_alloc | apply pw_below_drewN | apply below_drew1 | refine below_set ?_ GE116.out | refine below_set ?_ GE125.out | refine below_set ?_ GE134.out) | exact HB.out)⟩⟩
                    · rw [if_neg c46] at H
                      have c46b0 : ((t109.length : Int) == 18) = false := beq_eq_false_iff_ne.mpr c46
                      have c46b1 : ((t109.length : Int) != 18) = true := bne_iff_ne.mpr c46
                      have H' := Aside0.mk H
                      clear H
                      have hnb58 := NB116_125.out
                      have hnc58 := NB125_116.out
                      have hnb59 := NB116_134.out
                      have hnc59 := NB134_116.out
                      have hcz60_0 : w35.cell? ⟨gb116, 0, none⟩ = some (.int .i64 t108) := (blk_cell BK116.out 0).trans rfl
                      have hcz60_1 : w35.cell? ⟨gb116, 1, none⟩ = some (.slice Ao26 t109.length co26) := (blk_cell BK116.out 1).trans rfl
                      have hcz60_2 : w35.cell? ⟨gb116, 2, none⟩ = some (.slice Ao27 t112.length co27) := (blk_cell BK116.out 2).trans rfl
                      have hfz60_0 := blk_frozen BK116.out 0
                      have hfz60_1 := blk_frozen BK116.out 1
                      have hfz60_2 := blk_frozen BK116.out 2
                      go_wp2
                      go_meet
                      case rel => exact ⟨_, (true), (by first | rfl | (simp; done) | (simp [*]; done)), H', ⟨by first | omega | exact Nat.le_refl _⟩, ⟨by (with_reducible repeat (first | apply Kd.R_alloc | apply Kd.R_drewN | apply Kd.R_drew)); exact Kd.R_mono (Kd.R_far (p := ⟨gb134, 2, none⟩) (Kd.R_far (p := ⟨gb134, 1, none⟩) (Kd.R_far (p := ⟨gb134, 0, none⟩) (Kd.R_types HO111.out BK134.out (by decide)) (fun _ hk => hk.2) (.int .i64 t126)) (fun _ hk => hk.2) (.slice Ao39 t127.length co39)) (fun _ hk => hk.2) (.slice Ao40 t130.length co40)) (fun _ hk => ⟨hk.1.1.1.1.1.1, ⟨hk.1.1.1.1.2, ⟨hk.1.1.1.2, ⟨hk.1.1.2, hk.1.2⟩⟩⟩⟩)⟩, ⟨by (with_reducible repeat (first | apply Kd.R_alloc | apply Kd.R_drewN | apply Kd.R_drew)); exact Kd.R_mono (Kd.R_far (p := ⟨gb134, 2, none⟩) (Kd.R_far (p := ⟨gb134, 1, none⟩) (Kd.R_far (p := ⟨gb134, 0, none⟩) (Kd.R_types HO114.out BK134.out (by decide)) (fun _ hk => hk.2) (.int .i64 t126)) (fun _ hk => hk.2) (.slice Ao39 t127.length co39)) (fun _ hk => hk.2) (.slice Ao40 t130.length co40)) (fun _ hk => ⟨hk.1.1.1.1.1.1, ⟨hk.1.1.1.1.2, ⟨hk.1.1.1.2, ⟨hk.1.1.2, hk.1.2⟩⟩⟩⟩)⟩, ⟨by (with_reducible repeat (first | apply Kd.R_alloc | apply Kd.R_drewN | apply Kd.R_drew)); exact Kd.R_mono (Kd.R_far (p := ⟨gb134, 2, none⟩) (Kd.R_far (p := ⟨gb134, 1, none⟩) (Kd.R_far (p := ⟨gb134, 0, none⟩) (Kd.R_types HO120.out BK134.out (by decide)) (fun _ hk => hk.2) (.int .i64 t126)) (fun _ hk => hk.2) (.slice Ao39 t127.length co39)) (fun _ hk => hk.2) (.slice Ao40 t130.length co40)) (fun _ hk => ⟨hk.1.1.1.1.2, ⟨hk.1.1.1.2, ⟨hk.1.1.1.1.1.1, ⟨hk.1.1.2, hk.1.2⟩⟩⟩⟩)⟩, ⟨by (with_reducible repeat (first | apply Kd.R_alloc | apply Kd.R_drewN | apply Kd.R_drew)); exact Kd.R_mono (Kd.R_far (p := ⟨gb134, 2, none⟩) (Kd.R_far (p := ⟨gb134, 1, none⟩) (Kd.R_far (p := ⟨gb134, 0, none⟩) (Kd.R_types HO123.out BK134.out (by decide)) (fun _ hk => hk.2) (.int .i64 t126)) (fun _ hk => hk.2) (.slice Ao39 t127.length co39)) (fun _ hk => hk.2) (.slice Ao40 t130.length co40)) (fun _ hk => ⟨hk.1.1.1.1.2, ⟨hk.1.1.1.2, ⟨hk.1.1.1.1.1.1, ⟨hk.1.1.2, hk.1.2⟩⟩⟩⟩)⟩, ⟨by (with_reducible repeat (first | apply Kd.R_alloc | apply Kd.R_drewN | apply Kd.R_drew)); exact Kd.R_mono (Kd.R_far (p := ⟨gb134, 2, none⟩) (Kd.R_far (p := ⟨gb134, 1, none⟩) (Kd.R_far (p := ⟨gb134, 0, none⟩) (Kd.R_types HO129.out BK134.out (by decide)) (fun _ hk => hk.2) (.int .i64 t126)) (fun _ hk => hk.2) (.slice Ao39 t127.length co39)) (fun _ hk => hk.2) (.slice Ao40 t130.length co40)) (fun _ hk => ⟨hk.1.1.1.1.2, ⟨hk.1.1.1.2, ⟨hk.1.1.2, ⟨hk.1.2, hk.1.1.1.1.1.1⟩⟩⟩⟩)⟩, ⟨by (with_reducible repeat (first | apply Kd.R_alloc | apply Kd.R_drewN | apply Kd.R_drew)); exact Kd.R_mono (Kd.R_far (p := ⟨gb134, 2, none⟩) (Kd.R_far (p := ⟨gb134, 1, none⟩) (Kd.R_far (p := ⟨gb134, 0, none⟩) (Kd.R_types HO132.out BK134.out (by decide)) (fun _ hk => hk.2) (.int .i64 t126)) (fun _ hk => hk.2) (.slice Ao39 t127.length co39)) (fun _ hk => hk.2) (.slice Ao40 t130.length co40)) (fun _ hk => ⟨hk.1.1.1.1.2, ⟨hk.1.1.1.2, ⟨hk.1.1.2, ⟨hk.1.2, hk.1.1.1.1.1.1⟩⟩⟩⟩)⟩, ⟨by (with_reducible repeat (first | refine blk_drewN ?_ _ | refine blk_drew ?_ | refine blk_alloc ?_ _)); refine blk_far ?_ NB116_134.out _; (with_reducible repeat (first | refine blk_drewN ?_ _ | refine blk_drew ?_ | refine blk_alloc ?_ _)); refine blk_far ?_ NB116_134.out _; (with_reducible repeat (first | refine blk_drewN ?_ _ | refine blk_drew ?_ | refine blk_alloc ?_ _)); refine blk_far ?_ NB116_134.out _; (with_reducible repeat (first | refine blk_drewN ?_ _ | refine blk_drew ?_ | refine blk_alloc ?_ _)); exact BK116.out⟩, ⟨by (with_reducible repeat (first | refine blk_drewN ?_ _ | refine blk_drew ?_ | refine blk_alloc ?_ _)); refine blk_far ?_ NB125_134.out _; (with_reducible repeat (first | refine blk_drewN ?_ _ | refine blk_drew ?_ | refine blk_alloc ?_ _)); refine blk_far ?_ NB125_134.out _; (with_reducible repeat (first | refine blk_drewN ?_ _ | refine blk_drew ?_ | refine blk_alloc ?_ _)); refine blk_far ?_ NB125_134.out _; (with_reducible repeat (first | refine blk_drewN ?_ _ | refine blk_drew ?_ | refine blk_alloc ?_ _)); exact BK125.out⟩, ⟨by (with_reducible repeat (first | refine blk_drewN ?_ _ | refine blk_drew ?_ | refine blk_alloc ?_ _)); refine blk_put (cs := #[.int .i64 t126, .slice Ao39 t127.length co39, .slice none 0 0]) ?_ 2 _ rfl; (with_reducible repeat (first | refine blk_drewN ?_ _ | refine blk_drew ?_ | refine blk_alloc ?_ _)); refine blk_put (cs := #[.int .i64 t126, .slice none 0 0, .slice none 0 0]) ?_ 1 _ rfl; (with_reducible repeat (first | refine blk_drewN ?_ _ | refine blk_drew ?_ | refine blk_alloc ?_ _)); refine blk_put (cs := #[.int .i64 0, .slice none 0 0, .slice none 0 0]) ?_ 0 _ rfl; (with_reducible repeat (first | refine blk_drewN ?_ _ | refine blk_drew ?_ | refine blk_alloc ?_ _)); exact BK134.out⟩, ⟨by repeat (first | (with_reducible first | exact HB.out | apply below_alloc | apply pw_below_drewN | apply below_drew1 | refine below_set ?_ GE116.out | refine below_set ?_ GE125.out | refine below_set ?_ GE134.out) | exact HB.out)⟩⟩
                  · rw [if_neg c45] at H
                    have c45b0 : (t108 == (Int.tmod (wrap64 (a2)) (ji10))) = false := beq_eq_false_iff_ne.mpr c45
                    have c45b1 : (t108 != (Int.tmod (wrap64 (a2)) (ji10))) = true := bne_iff_ne.mpr c45
                    have H' := Aside0.mk H
                    clear H
                    have hnb61 := NB116_125.out
                    have hnc61 := NB125_116.out
                    have hnb62 := NB116_134.out
                    have hnc62 := NB134_116.out
                    have hcz63_0 : w35.cell? ⟨gb116, 0, none⟩ = some (.int .i64 t108) := (blk_cell BK116.out 0).trans rfl
                    have hcz63_1 : w35.cell? ⟨gb116, 1, none⟩ = some (.slice Ao26 t109.length co26) := (blk_cell BK116.out 1).trans rfl
                    have hcz63_2 : w35.cell? ⟨gb116, 2, none⟩ = some (.slice Ao27 t112.length co27) := (blk_cell BK116.out 2).trans rfl
                    have hfz63_0 := blk_frozen BK116.out 0
                    have hfz63_1 := blk_frozen BK116.out 1
                    have hfz63_2 := blk_frozen BK116.out 2
                    go_wp2
                    go_meet
                    case rel => exact ⟨_, (true), (by first | rfl | (simp; done) | (simp [*]; done)), H', ⟨by first | omega | exact Nat.le_refl _⟩, ⟨by (with_reducible repeat (first | apply Kd.R_alloc | apply Kd.R_drewN | apply Kd.R_drew)); exact Kd.R_mono (Kd.R_far (p := ⟨gb134, 2, none⟩) (Kd.R_far (p := ⟨gb134, 1, none⟩) (Kd.R_far (p := ⟨gb134, 0, none⟩) (Kd.R_types HO111.out BK134.out (by decide)) (fun _ hk => hk.2) (.int .i64 t126)) (fun _ hk => hk.2) (.slice Ao39 t127.length co39)) (fun _ hk => hk.2) (.slice Ao40 t130.length co40)) (fun _ hk => ⟨hk.1.1.1.1.1.1, ⟨hk.1.1.1.1.2, ⟨hk.1.1.1.2, ⟨hk.1.1.2, hk.1.2⟩⟩⟩⟩)⟩, ⟨by (with_reducible repeat (first | apply Kd.R_alloc | apply Kd.R_drewN | apply Kd.R_drew)); exact Kd.R_mono (Kd.R_far (p := ⟨gb134, 2, none⟩) (Kd.R_far (p := ⟨gb134, 1, none⟩) (Kd.R_far (p := ⟨gb134, 0, none⟩) (Kd.R_types HO114.out BK134.out (by decide)) (fun _ hk => hk.2) (.int .i64 t126)) (fun _ hk => hk.2) (.slice Ao39 t127.length co39)) (fun _ hk => hk.2) (.slice Ao40 t130.length co40)) (fun _ hk => ⟨hk.1.1.1.1.1.1, ⟨hk.1.1.1.1.2, ⟨hk.1.1.1.2, ⟨hk.1.1.2, hk.1.2⟩⟩⟩⟩)⟩, ⟨by (with_reducible repeat (first | apply Kd.R_alloc | apply Kd.R_drewN | apply Kd.R_drew)); exact Kd.R_mono (Kd.R_far (p := ⟨gb134, 2, none⟩) (Kd.R_far (p := ⟨gb134, 1, none⟩) (Kd.R_far (p := ⟨gb134, 0, none⟩) (Kd.R_types HO120.out BK134.out (by decide)) (fun _ hk => hk.2) (.int .i64 t126)) (fun _ hk => hk.2) (.slice Ao39 t127.length co39)) (fun _ hk => hk.2) (.slice Ao40 t130.length co40)) (fun _ hk => ⟨hk.1.1.1.1.2, ⟨hk.1.1.1.2, ⟨hk.1.1.1.1.1.1, ⟨hk.1.1.2, hk.1.2⟩⟩⟩⟩)⟩, ⟨by (with_reducible repeat (first | apply Kd.R_alloc | apply Kd.R_drewN | apply Kd.R_drew)); exact Kd.R_mono (Kd.R_far (p := ⟨gb134, 2, none⟩) (Kd.R_far (p := ⟨gb134, 1, none⟩) (Kd.R_far (p := ⟨gb134, 0, none⟩) (Kd.R_types HO123.out BK134.out (by decide)) (fun _ hk => hk.2) (.int .i64 t126)) (fun _ hk => hk.2) (.slice Ao39 t127.length co39)) (fun _ hk => hk.2) (.slice Ao40 t130.length co40)) (fun _ hk => ⟨hk.1.1.1.1.2, ⟨hk.1.1.1.2, ⟨hk.1.1.1.1.1.1, ⟨hk.1.1.2, hk.1.2⟩⟩⟩⟩)⟩, ⟨by (with_reducible repeat (first | apply Kd.R_alloc | apply Kd.R_drewN | apply Kd.R_drew)); exact Kd.R_mono (Kd.R_far (p := ⟨gb134, 2, none⟩) (Kd.R_far (p := ⟨gb134, 1, none⟩) (Kd.R_far (p := ⟨gb134, 0, none⟩) (Kd.R_types HO129.out BK134.out (by decide)) (fun _ hk => hk.2) (.int .i64 t126)) (fun _ hk => hk.2) (.slice Ao39 t127.length co39)) (fun _ hk => hk.2) (.slice Ao40 t130.length co40)) (fun _ hk => ⟨hk.1.1.1.1.2, ⟨hk.1.1.1.2, ⟨hk.1.1.2, ⟨hk.1.2, hk.1.1.1.1.1.1⟩⟩⟩⟩)⟩, ⟨by (with_reducible repeat (first | apply Kd.R_alloc | apply Kd.R_drewN | apply Kd.R_drew)); exact Kd.R_mono (Kd.R_far (p := ⟨gb134, 2, none⟩) (Kd.R_far (p := ⟨gb134, 1, none⟩) (Kd.R_far (p := ⟨gb134, 0, none⟩) (Kd.R_types HO132.out BK134.out (by decide)) (fun _ hk => hk.2) (.int .i64 t126)) (fun _ hk => hk.2) (.slice Ao39 t127.length co39)) (fun _ hk => hk.2) (.slice Ao40 t130.length co40)) (fun _ hk => ⟨hk.1.1.1.1.2, ⟨hk.1.1.1.2, ⟨hk.1.1.2, ⟨hk.1.2, hk.1.1.1.1.1.1⟩⟩⟩⟩)⟩, ⟨by (with_reducible repeat (first | refine blk_drewN ?_ _ | refine blk_drew ?_ | refine blk_alloc ?_ _)); refine blk_far ?_ NB116_134.out _; (with_reducible repeat (first | refine blk_drewN ?_ _ | refine blk_drew ?_ | refine blk_alloc ?_ _)); refine blk_far ?_ NB116_134.out _; (with_reducible repeat (first | refine blk_drewN ?_ _ | refine blk_drew ?_ | refine blk_alloc ?_ _)); refine blk_far ?_ NB116_134.out _; (with_reducible repeat (first | refine blk_drewN ?_ _ | refine blk_drew ?_ | refine blk_alloc ?_ _)); exact BK116.out⟩, ⟨by (with_reducible repeat (first | refine blk_drewN ?_ _ | refine blk_drew ?_ | refine blk_alloc ?_ _)); refine blk_far ?_ NB125_134.out _; (with_reducible repeat (first | refine blk_drewN ?_ _ | refine blk_drew ?_ | refine blk_alloc ?_ _)); refine blk_far ?_ NB125_134.out _; (with_reducible repeat (first | refine blk_drewN ?_ _ | refine blk_drew ?_ | refine blk_alloc ?_ _)); refine blk_far ?_ NB125_134.out _; (with_reducible repeat (first | refine blk_drewN ?_ _ | refine blk_drew ?_ | refine blk_alloc ?_ _)); exact BK125.out⟩, ⟨by (with_reducible repeat (first | refine blk_drewN ?_ _ | refine blk_drew ?_ | refine blk_alloc ?_ _)); refine blk_put (cs := #[.int .i64 t126, .slice Ao39 t127.length co39, .slice none 0 0]) ?_ 2 _ rfl; (with_reducible repeat (first | refine blk_drewN ?_ _ | refine blk_drew ?_ | refine blk_alloc ?_ _)); refine blk_put (cs := #[.int .i64 t126, .slice none 0 0, .slice none 0 0]) ?_ 1 _ rfl; (with_reducible repeat (first | refine blk_drewN ?_ _ | refine blk_drew ?_ | refine blk_alloc ?_ _)); refine blk_put (cs := #[.int .i64 0, .slice none 0 0, .slice none 0 0]) ?_ 0 _ rfl; (with_reducible repeat (first | refine blk_drewN ?_ _ | refine blk_drew ?_ | refine blk_alloc ?_ _)); exact BK134.out⟩, ⟨by repeat (first | (with_reducible first | exact HB.out | apply below_alloc | apply pw_below_drewN | apply below_drew1 | refine below_set ?_ GE116.out | refine below_set ?_ GE125.out | refine below_set ?_ GE134.out) | exact HB.out)⟩⟩
                · rw [if_neg c44] at H
                  have c44b0 : (t133 == 0) = false := beq_eq_false_iff_ne.mpr c44
                  have c44b1 : (t133 != 0) = true := bne_iff_ne.mpr c44
                  have H' := Aside0.mk H
                  clear H
                  go_wp2
                  go_meet
                  case rel => exact ⟨_, (true), (by first | rfl | (simp; done) | (simp [*]; done)), H', ⟨by first | omega | exact Nat.le_refl _⟩, ⟨by (with_reducible repeat (first | apply Kd.R_alloc | apply Kd.R_drewN | apply Kd.R_drew)); exact Kd.R_mono (Kd.R_far (p := ⟨gb134, 2, none⟩) (Kd.R_far (p := ⟨gb134, 1, none⟩) (Kd.R_far (p := ⟨gb134, 0, none⟩) (Kd.R_types HO111.out BK134.out (by decide)) (fun _ hk => hk.2) (.int .i64 t126)) (fun _ hk => hk.2) (.slice Ao39 t127.length co39)) (fun _ hk => hk.2) (.slice Ao40 t130.length co40)) (fun _ hk => ⟨hk.1.1.1.1.1.1, ⟨hk.1.1.1.1.2, ⟨hk.1.1.1.2, ⟨hk.1.1.2, hk.1.2⟩⟩⟩⟩)⟩, ⟨by (with_reducible repeat (first | apply Kd.R_alloc | apply Kd.R_drewN | apply Kd.R_drew)); exact Kd.R_mono (Kd.R_far (p := ⟨gb134, 2, none⟩) (Kd.R_far (p := ⟨gb134, 1, none⟩) (Kd.R_far (p := ⟨gb134, 0, none⟩) (Kd.R_types HO114.out BK134.out (by decide)) (fun _ hk => hk.2) (.int .i64 t126)) (fun _ hk => hk.2) (.slice Ao39 t127.length co39)) (fun _ hk => hk.2) (.slice Ao40 t130.length co40)) (fun _ hk => ⟨hk.1.1.1.1.1.1, ⟨hk.1.1.1.1.2, ⟨hk.1.1.1.2, ⟨hk.1.1.2, hk.1.2⟩⟩⟩⟩)⟩, ⟨by (with_reducible repeat (first | apply Kd.R_alloc | apply Kd.R_drewN | apply Kd.R_drew)); exact Kd.R_mono (Kd.R_far (p := ⟨gb134, 2, none⟩) (Kd.R_far (p := ⟨gb134, 1, none⟩) (Kd.R_far (p := ⟨gb134, 0, none⟩) (Kd.R_types HO120.out BK134.out (by decide)) (fun _ hk => hk.2) (.int .i64 t126)) (fun _ hk => hk.2) (.slice Ao39 t127.length co39)) (fun _ hk => hk.2) (.slice Ao40 t130.length co40)) (fun _ hk => ⟨hk.1.1.1.1.2, ⟨hk.1.1.1.2, ⟨hk.1.1.1.1.1.1, ⟨hk.1.1.2, hk.1.2⟩⟩⟩⟩)⟩, ⟨by (with_reducible repeat (first | apply Kd.R_alloc | apply Kd.R_drewN | apply Kd.R_drew)); exact Kd.R_mono (Kd.R_far (p := ⟨gb134, 2, none⟩) (Kd.R_far (p := ⟨gb134, 1, none⟩) (Kd.R_far (p := ⟨gb134, 0, none⟩) (Kd.R_types HO123.out BK134.out (by decide)) (fun _ hk => hk.2) (.int .i64 t126)) (fun _ hk => hk.2) (.slice Ao39 t127.length co39)) (fun _ hk => hk.2) (.slice Ao40 t130.length co40)) (fun _ hk => ⟨hk.1.1.1.1.2, ⟨hk.1.1.1.2, ⟨hk.1.1.1.1.1.1, ⟨hk.1.1.2, hk.1.2⟩⟩⟩⟩)⟩, ⟨by (with_reducible repeat (first | apply Kd.R_alloc | apply Kd.R_drewN | apply Kd.R_drew)); exact Kd.R_mono (Kd.R_far (p := ⟨gb134, 2, none⟩) (Kd.R_far (p := ⟨gb134, 1, none⟩) (Kd.R_far (p := ⟨gb134, 0, none⟩) (Kd.R_types HO129.out BK134.out (by decide)) (fun _ hk => hk.2) (.int .i64 t126)) (fun _ hk => hk.2) (.slice Ao39 t127.length co39)) (fun _ hk => hk.2) (.slice Ao40 t130.length co40)) (fun _ hk => ⟨hk.1.1.1.1.2, ⟨hk.1.1.1.2, ⟨hk.1.1.2, ⟨hk.1.2, hk.1.1.1.1.1.1⟩⟩⟩⟩)⟩, ⟨by (with_reducible repeat (first | apply Kd.R_alloc | apply Kd.R_drewN | apply Kd.R_drew)); exact Kd.R_mono (Kd.R_far (p := ⟨gb134, 2, none⟩) (Kd.R_far (p := ⟨gb134, 1, none⟩) (Kd.R_far (p := ⟨gb134, 0, none⟩) (Kd.R_types HO132.out BK134.out (by decide)) (fun _ hk => hk.2) (.int .i64 t126)) (fun _ hk => hk.2) (.slice Ao39 t127.length co39)) (fun _ hk => hk.2) (.slice Ao40 t130.length co40)) (fun _ hk => ⟨hk.1.1.1.1.2, ⟨hk.1.1.1.2, ⟨hk.1.1.2, ⟨hk.1.2, hk.1.1.1.1.1.1⟩⟩⟩⟩)⟩, ⟨by (with_reducible repeat (first | refine blk_drewN ?_ _ | refine blk_drew ?_ | refine blk_alloc ?_ _)); refine blk_far ?_ NB116_134.out _; (with_reducible repeat (first | refine blk_drewN ?_ _ | refine blk_drew ?_ | refine blk_alloc ?_ _)); refine blk_far ?_ NB116_134.out _; (with_reducible repeat (first | refine blk_drewN ?_ _ | refine blk_drew ?_ | refine blk_alloc ?_ _)); refine blk_far ?_ NB116_134.out _; (with_reducible repeat (first | refine blk_drewN ?_ _ | refine blk_drew ?_ | refine blk_alloc ?_ _)); exact BK116.out⟩, ⟨by (with_reducible repeat (first | refine blk_drewN ?_ _ | refine blk_drew ?_ | refine blk_alloc ?_ _)); refine blk_far ?_ NB125_134.out _; (with_reducible repeat (first | refine blk_drewN ?_ _ | refine blk_drew ?_ | refine blk_alloc ?_ _)); refine blk_far ?_ NB125_134.out _; (with_reducible repeat (first | refine blk_drewN ?_ _ | refine blk_drew ?_ | refine blk_alloc ?_ _)); refine blk_far ?_ NB125_134.out _; (with_reducible repeat (first | refine blk_drewN ?_ _ | refine blk_drew ?_ | refine blk_alloc ?_ _)); exact BK125.out⟩, ⟨by (with_reducible repeat (first | refine blk_drewN ?_ _ | refine blk_drew ?_ | refine blk_alloc ?_ _)); refine blk_put (cs := #[.int .i64 t126, .slice Ao39 t127.length co39, .slice none 0 0]) ?_ 2 _ rfl; (with_reducible repeat (first | refine blk_drewN ?_ _ | refine blk_drew ?_ | refine blk_alloc ?_ _)); refine blk_put (cs := #[.int .i64 t126, .slice none 0 0, .slice none 0 0]) ?_ 1 _ rfl; (with_reducible repeat (first | refine blk_drewN ?_ _ | refine blk_drew ?_ | refine blk_alloc ?_ _)); refine blk_put (cs := #[.int .i64 0, .slice none 0 0, .slice none 0 0]) ?_ 0 _ rfl; (with_reducible repeat (first | refine blk_drewN ?_ _ | refine blk_drew ?_ | refine blk_alloc ?_ _)); exact BK134.out⟩, ⟨by repeat (first | (with_reducible first | exact HB.out | apply below_alloc | apply pw_below_drewN | apply below_drew1 | refine below_set ?_ GE116.out | refine below_set ?_ GE125.out | refine below_set ?_ GE134.out) | exact HB.out)⟩⟩
              · rw [if_neg c43] at H
                have c43b0 : (t124 == 0) = false := beq_eq_false_iff_ne.mpr c43
                have c43b1 : (t124 != 0) = true := bne_iff_ne.mpr c43
                have H' := Aside0.mk H
                clear H
                go_wp2
                go_meet
                case rel => exact ⟨_, (true), (by first | rfl | (simp; done) | (simp [*]; done)), H', ⟨by first | omega | exact Nat.le_refl _⟩, ⟨by (with_reducible repeat (first | apply Kd.R_alloc | apply Kd.R_drewN | apply Kd.R_drew)); exact Kd.R_mono (Kd.R_far (p := ⟨gb134, 2, none⟩) (Kd.R_far (p := ⟨gb134, 1, none⟩) (Kd.R_far (p := ⟨gb134, 0, none⟩) (Kd.R_types HO111.out BK134.out (by decide)) (fun _ hk => hk.2) (.int .i64 t126)) (fun _ hk => hk.2) (.slice Ao39 t127.length co39)) (fun _ hk => hk.2) (.slice Ao40 t130.length co40)) (fun _ hk => ⟨hk.1.1.1.1.1.1, ⟨hk.1.1.1.1.2, ⟨hk.1.1.1.2, ⟨hk.1.1.2, hk.1.2⟩⟩⟩⟩)⟩, ⟨by (with_reducible repeat (first | apply Kd.R_alloc | apply Kd.R_drewN | apply Kd.R_drew)); exact Kd.R_mono (Kd.R_far (p := ⟨gb134, 2, none⟩) (Kd.R_far (p := ⟨gb134, 1, none⟩) (Kd.R_far (p := ⟨gb134, 0, none⟩) (Kd.R_types HO114.out BK134.out (by decide)) (fun _ hk => hk.2) (.int .i64 t126)) (fun _ hk => hk.2) (.slice Ao39 t127.length co39)) (fun _ hk => hk.2) (.slice Ao40 t130.length co40)) (fun _ hk => ⟨hk.1.1.1.1.1.1, ⟨hk.1.1.1.1.2, ⟨hk.1.1.1.2, ⟨hk.1.1.2, hk.1.2⟩⟩⟩⟩)⟩, ⟨by (with_reducible repeat (first | apply Kd.R_alloc | apply Kd.R_drewN | apply Kd.R_drew)); exact Kd.R_mono (Kd.R_far (p := ⟨gb134, 2, none⟩) (Kd.R_far (p := ⟨gb134, 1, none⟩) (Kd.R_far (p := ⟨gb134, 0, none⟩) (Kd.R_types HO120.out BK134.out (by decide)) (fun _ hk => hk.2) (.int .i64 t126)) (fun _ hk => hk.2) (.slice Ao39 t127.length co39)) (fun _ hk => hk.2) (.slice Ao40 t130.length co40)) (fun _ hk => ⟨hk.1.1.1.1.2, ⟨hk.1.1.1.2, ⟨hk.1.1.1.1.1.1, ⟨hk.1.1.2, hk.1.2⟩⟩⟩⟩)⟩, ⟨by (with_reducible repeat (first | apply Kd.R_alloc | apply Kd.R_drewN | apply Kd.R_drew)); exact Kd.R_mono (Kd.R_far (p := ⟨gb134, 2, none⟩) (Kd.R_far (p := ⟨gb134, 1, none⟩) (Kd.R_far (p := ⟨gb134, 0, none⟩) (Kd.R_types HO123.out BK134.out (by decide)) (fun _ hk => hk.2) (.int .i64 t126)) (fun _ hk => hk.2) (.slice Ao39 t127.length co39)) (fun _ hk => hk.2) (.slice Ao40 t130.length co40)) (fun _ hk => ⟨hk.1.1.1.1.2, ⟨hk.1.1.1.2, ⟨hk.1.1.1.1.1.1, ⟨hk.1.1.2, hk.1.2⟩⟩⟩⟩)⟩, ⟨by (with_reducible repeat (first | apply Kd.R_alloc | apply Kd.R_drewN | apply Kd.R_drew)); exact Kd.R_mono (Kd.R_far (p := ⟨gb134, 2, none⟩) (Kd.R_far (p := ⟨gb134, 1, none⟩) (Kd.R_far (p := ⟨gb134, 0, none⟩) (Kd.R_types HO129.out BK134.out (by decide)) (fun _ hk => hk.2) (.int .i64 t126)) (fun _ hk => hk.2) (.slice Ao39 t127.length co39)) (fun _ hk => hk.2) (.slice Ao40 t130.length co40)) (fun _ hk => ⟨hk.1.1.1.1.2, ⟨hk.1.1.1.2, ⟨hk.1.1.2, ⟨hk.1.2, hk.1.1.1.1.1.1⟩⟩⟩⟩)⟩, ⟨by (with_reducible repeat (first | apply Kd.R_alloc | apply Kd.R_drewN | apply Kd.R_drew)); exact Kd.R_mono (Kd.R_far (p := ⟨gb134, 2, none⟩) (Kd.R_far (p := ⟨gb134, 1, none⟩) (Kd.R_far (p := ⟨gb134, 0, none⟩) (Kd.R_types HO132.out BK134.out (by decide)) (fun _ hk => hk.2) (.int .i64 t126)) (fun _ hk => hk.2) (.slice Ao39 t127.length co39)) (fun _ hk => hk.2) (.slice Ao40 t130.length co40)) (fun _ hk => ⟨hk.1.1.1.1.2, ⟨hk.1.1.1.2, ⟨hk.1.1.2, ⟨hk.1.2, hk.1.1.1.1.1.1⟩⟩⟩⟩)⟩, ⟨by (with_reducible repeat (first | refine blk_drewN ?_ _ | refine blk_drew ?_ | refine blk_alloc ?_ _)); refine blk_far ?_ NB116_134.out _; (with_reducible repeat (first | refine blk_drewN ?_ _ | refine blk_drew ?_ | refine blk_alloc ?_ _)); refine blk_far ?_ NB116_134.out _; (with_reducible repeat (first | refine blk_drewN ?_ _ | refine blk_drew ?_ | refine blk_alloc ?_ _)); refine blk_far ?_ NB116_134.out _; (with_reducible repeat (first | refine blk_drewN ?_ _ | refine blk_drew ?_ | refine blk_alloc ?_ _)); exact BK116.out⟩, ⟨by (with_reducible repeat (first | refine blk_drewN ?_ _ | refine blk_drew ?_ | refine blk_alloc ?_ _)); refine blk_far ?_ NB125_134.out _; (with_reducible repeat (first | refine blk_drewN ?_ _ | refine blk_drew ?_ | refine blk_alloc ?_ _)); refine blk_far ?_ NB125_134.out _; (with_reducible repeat (first | refine blk_drewN ?_ _ | refine blk_drew ?_ | refine blk_alloc ?_ _)); refine blk_far ?_ NB125_134.out _; (with_reducible repeat (first | refine blk_drewN ?_ _ | refine blk_drew ?_ | refine blk_alloc ?_ _)); exact BK125.out⟩, ⟨by (with_reducible repeat (first | refine blk_drewN ?_ _ | refine blk_drew ?_ | refine blk_alloc ?_ _)); refine blk_put (cs := #[.int .i64 t126, .slice Ao39 t127.length co39, .slice none 0 0]) ?_ 2 _ rfl; (with_reducible repeat (first | refine blk_drewN ?_ _ | refine blk_drew ?_ | refine blk_alloc ?_ _)); refine blk_put (cs := #[.int .i64 t126, .slice none 0 0, .slice none 0 0]) ?_ 1 _ rfl; (with_reducible repeat (first | refine blk_drewN ?_ _ | refine blk_drew ?_ | refine blk_alloc ?_ _)); refine blk_put (cs := #[.int .i64 0, .slice none 0 0, .slice none 0 0]) ?_ 0 _ rfl; (with_reducible repeat (first | refine blk_drewN ?_ _ | refine blk_drew ?_ | refine blk_alloc ?_ _)); exact BK134.out⟩, ⟨by repeat (first | (with_reducible first | exact HB.out | apply below_alloc | apply pw_below_drewN | apply below_drew1 | refine below_set ?_ GE116.out | refine below_set ?_ GE125.out | refine below_set ?_ GE134.out) | exact HB.out)⟩⟩
            · rw [if_neg c42] at H
              have c42b0 : (t115 == 0) = false := beq_eq_false_iff_ne.mpr c42
              have c42b1 : (t115 != 0) = true := bne_iff_ne.mpr c42
              have H' := Aside0.mk H
              clear H
              go_wp2
              go_meet
              case rel => exact ⟨_, (true), (by first | rfl | (simp; done) | (simp [*]; done)), H', ⟨by first | omega | exact Nat.le_refl _⟩, ⟨by (with_reducible repeat (first | apply Kd.R_alloc | apply Kd.R_drewN | apply Kd.R_drew)); exact Kd.R_mono (Kd.R_far (p := ⟨gb134, 2, none⟩) (Kd.R_far (p := ⟨gb134, 1, none⟩) (Kd.R_far (p := ⟨gb134, 0, none⟩) (Kd.R_types HO111.out BK134.out (by decide)) (fun _ hk => hk.2) (.int .i64 t126)) (fun _ hk => hk.2) (.slice Ao39 t127.length co39)) (fun _ hk => hk.2) (.slice Ao40 t130.length co40)) (fun _ hk => ⟨hk.1.1.1.1.1.1, ⟨hk.1.1.1.1.2, ⟨hk.1.1.1.2, ⟨hk.1.1.2, hk.1.2⟩⟩⟩⟩)⟩, ⟨by (with_reducible repeat (first | apply Kd.R_alloc | apply Kd.R_drewN | apply Kd.R_drew)); exact Kd.R_mono (Kd.R_far (p := ⟨gb134, 2, none⟩) (Kd.R_far (p := ⟨gb134, 1, none⟩) (Kd.R_far (p := ⟨gb134, 0, none⟩) (Kd.R_types HO114.out BK134.out (by decide)) (fun _ hk => hk.2) (.int .i64 t126)) (fun _ hk => hk.2) (.slice Ao39 t127.length co39)) (fun _ hk => hk.2) (.slice Ao40 t130.length co40)) (fun _ hk => ⟨hk.1.1.1.1.1.1, ⟨hk.1.1.1.1.2, ⟨hk.1.1.1.2, ⟨hk.1.1.2, hk.1.2⟩⟩⟩⟩)⟩, ⟨by (with_reducible repeat (first | apply Kd.R_alloc | apply Kd.R_drewN | apply Kd.R_drew)); exact Kd.R_mono (Kd.R_far (p := ⟨gb134, 2, none⟩) (Kd.R_far (p := ⟨gb134, 1, none⟩) (Kd.R_far (p := ⟨gb134, 0, none⟩) (Kd.R_types HO120.out BK134.out (by decide)) (fun _ hk => hk.2) (.int .i64 t126)) (fun _ hk => hk.2) (.slice Ao39 t127.length co39)) (fun _ hk => hk.2) (.slice Ao40 t130.length co40)) (fun _ hk => ⟨hk.1.1.1.1.2, ⟨hk.1.1.1.2, ⟨hk.1.1.1.1.1.1, ⟨hk.1.1.2, hk.1.2⟩⟩⟩⟩)⟩, ⟨by (with_reducible repeat (first | apply Kd.R_alloc | apply Kd.R_drewN | apply Kd.R_drew)); exact Kd.R_mono (Kd.R_far (p := ⟨gb134, 2, none⟩) (Kd.R_far (p := ⟨gb134, 1, none⟩) (Kd.R_far (p := ⟨gb134, 0, none⟩) (Kd.R_types HO123.out BK134.out (by decide)) (fun _ hk => hk.2) (.int .i64 t126)) (fun _ hk => hk.2) (.slice Ao39 t127.length co39)) (fun _ hk => hk.2) (.slice Ao40 t130.length co40)) (fun _ hk => ⟨hk.1.1.1.1.2, ⟨hk.1.1.1.2, ⟨hk.1.1.1.1.1.1, ⟨hk.1.1.2, hk.1.2⟩⟩⟩⟩)⟩, ⟨by (with_reducible repeat (first | apply Kd.R_alloc | apply Kd.R_drewN | apply Kd.R_drew)); exact Kd.R_mono (Kd.R_far (p := ⟨gb134, 2, none⟩) (Kd.R_far (p := ⟨gb134, 1, none⟩) (Kd.R_far (p := ⟨gb134, 0, none⟩) (Kd.R_types HO129.out BK134.out (by decide)) (fun _ hk => hk.2) (.int .i64 t126)) (fun _ hk => hk.2) (.slice Ao39 t127.length co39)) (fun _ hk => hk.2) (.slice Ao40 t130.length co40)) (fun _ hk => ⟨hk.1.1.1.1.2, ⟨hk.1.1.1.2, ⟨hk.1.1.2, ⟨hk.1.2, hk.1.1.1.1.1.1⟩⟩⟩⟩)⟩, ⟨by (with_reducible repeat (first | apply Kd.R_alloc | apply Kd.R_drewN | apply Kd.R_drew)); exact Kd.R_mono (Kd.R_far (p := ⟨gb134, 2, none⟩) (Kd.R_far (p := ⟨gb134, 1, none⟩) (Kd.R_far (p := ⟨gb134, 0, none⟩) (Kd.R_types HO132.out BK134.out (by decide)) (fun _ hk => hk.2) (.int .i64 t126)) (fun _ hk => hk.2) (.slice Ao39 t127.length co39)) (fun _ hk => hk.2) (.slice Ao40 t130.length co40)) (fun _ hk => ⟨hk.1.1.1.1.2, ⟨hk.1.1.1.2, ⟨hk.1.1.2, ⟨hk.1.2, hk.1.1.1.1.1.1⟩⟩⟩⟩)⟩, ⟨by (with_reducible repeat (first | refine blk_drewN ?_ _ | refine blk_drew ?_ | refine blk_alloc ?_ _)); refine blk_far ?_ NB116_134.out _; (with_reducible repeat (first | refine blk_drewN ?_ _ | refine blk_drew ?_ | refine blk_alloc ?_ _)); refine blk_far ?_ NB116_134.out _; (with_reducible repeat (first | refine blk_drewN ?_ _ | refine blk_drew ?_ | refine blk_alloc ?_ _)); refine blk_far ?_ NB116_134.out _; (with_reducible repeat (first | refine blk_drewN ?_ _ | refine blk_drew ?_ | refine blk_alloc ?_ _)); exact BK116.out⟩, ⟨by (with_reducible repeat (first | refine blk_drewN ?_ _ | refine blk_drew ?_ | refine blk_alloc ?_ _)); refine blk_far ?_ NB125_134.out _; (with_reducible repeat (first | refine blk_drewN ?_ _ | refine blk_drew ?_ | refine blk_alloc ?_ _)); refine blk_far ?_ NB125_134.out _; (with_reducible repeat (first | refine blk_drewN ?_ _ | refine blk_drew ?_ | refine blk_alloc ?_ _)); refine blk_far ?_ NB125_134.out _; (with_reducible repeat (first | refine blk_drewN ?_ _ | refine blk_drew ?_ | refine blk_alloc ?_ _)); exact BK125.out⟩, ⟨by (with_reducible repeat (first | refine blk_drewN ?_ _ | refine blk_drew ?_ | refine blk_alloc ?_ _)); refine blk_put (cs := #[.int .i64 t126, .slice Ao39 t127.length co39, .slice none 0 0]) ?_ 2 _ rfl; (with_reducible repeat (first | refine blk_drewN ?_ _ | refine blk_drew ?_ | refine blk_alloc ?_ _)); refine blk_put (cs := #[.int .i64 t126, .slice none 0 0, .slice none 0 0]) ?_ 1 _ rfl; (with_reducible repeat (first | refine blk_drewN ?_ _ | refine blk_drew ?_ | refine blk_alloc ?_ _)); refine blk_put (cs := #[.int .i64 0, .slice none 0 0, .slice none 0 0]) ?_ 0 _ rfl; (with_reducible repeat (first | refine blk_drewN ?_ _ | refine blk_drew ?_ | refine blk_alloc ?_ _)); exact BK134.out⟩, ⟨by repeat (first | (with_reducible first | exact HB.out | apply below_alloc | apply pw_below_drewN | apply below_drew1 | refine below_set ?_ GE116.out | refine below_set ?_ GE125.out | refine below_set ?_ GE134.out) | exact HB.out)⟩⟩
          · rw [if_neg c41] at H
            have c41b0 : (t107 == 0) = false := beq_eq_false_iff_ne.mpr c41
            have c41b1 : (t107 != 0) = true := bne_iff_ne.mpr c41
            (first | rw [c41b0] | (simp only [i64_w, i32_w]; rw [c41b0]) | skip)
            have H' := Aside0.mk H
            clear H
            go_wp2
            go_meet
            case rel => exact ⟨_, (true), (by first | rfl | (simp; done) | (simp [*]; done)), H', ⟨by first | omega | exact Nat.le_refl _⟩, ⟨by (with_reducible repeat (first | apply Kd.R_alloc | apply Kd.R_drewN | apply Kd.R_drew)); exact Kd.R_mono (Kd.R_far (p := ⟨gb134, 2, none⟩) (Kd.R_far (p := ⟨gb134, 1, none⟩) (Kd.R_far (p := ⟨gb134, 0, none⟩) (Kd.R_types HO111.out BK134.out (by decide)) (fun _ hk => hk.2) (.int .i64 t126)) (fun _ hk => hk.2) (.slice Ao39 t127.length co39)) (fun _ hk => hk.2) (.slice Ao40 t130.length co40)) (fun _ hk => ⟨hk.1.1.1.1.1.1, ⟨hk.1.1.1.1.2, ⟨hk.1.1.1.2, ⟨hk.1.1.2, hk.1.2⟩⟩⟩⟩)⟩, ⟨by (with_reducible repeat (first | apply Kd.R_alloc | apply Kd.R_drewN | apply Kd.R_drew)); exact Kd.R_mono (Kd.R_far (p := ⟨gb134, 2, none⟩) (Kd.R_far (p := ⟨gb134, 1, none⟩) (Kd.R_far (p := ⟨gb134, 0, none⟩) (Kd.R_types HO114.out BK134.out (by decide)) (fun _ hk => hk.2) (.int .i64 t126)) (fun _ hk => hk.2) (.slice Ao39 t127.length co39)) (fun _ hk => hk.2) (.slice Ao40 t130.length co40)) (fun _ hk => ⟨hk.1.1.1.1.1.1, ⟨hk.1.1.1.1.2, ⟨hk.1.1.1.2, ⟨hk.1.1.2, hk.1.2⟩⟩⟩⟩)⟩, ⟨by (with_reducible repeat (first | apply Kd.R_alloc | apply Kd.R_drewN | apply Kd.R_drew)); exact Kd.R_mono (Kd.R_far (p := ⟨gb134, 2, none⟩) (Kd.R_far (p := ⟨gb134, 1, none⟩) (Kd.R_far (p := ⟨gb134, 0, none⟩) (Kd.R_types HO120.out BK134.out (by decide)) (fun _ hk => hk.2) (.int .i64 t126)) (fun _ hk => hk.2) (.slice Ao39 t127.length co39)) (fun _ hk => hk.2) (.slice Ao40 t130.length co40)) (fun _ hk => ⟨hk.1.1.1.1.2, ⟨hk.1.1.1.2, ⟨hk.1.1.1.1.1.1, ⟨hk.1.1.2, hk.1.2⟩⟩⟩⟩)⟩, ⟨by (with_reducible repeat (first | apply Kd.R_alloc | apply Kd.R_drewN | apply Kd.R_drew)); exact Kd.R_mono (Kd.R_far (p := ⟨gb134, 2, none⟩) (Kd.R_far (p := ⟨gb134, 1, none⟩) (Kd.R_far (p := ⟨gb134, 0, none⟩) (Kd.R_types HO123.out BK134.out (by decide)) (fun _ hk => hk.2) (.int .i64 t126)) (fun _ hk => hk.2) (.slice Ao39 t127.length co39)) (fun _ hk => hk.2) (.slice Ao40 t130.length co40)) (fun _ hk => ⟨hk.1.1.1.1.2, ⟨hk.1.1.1.2, ⟨hk.1.1.1.1.1.1, ⟨hk.1.1.2, hk.1.2⟩⟩⟩⟩)⟩, ⟨by (with_reducible repeat (first | apply Kd.R_alloc | apply Kd.R_drewN | apply Kd.R_drew)); exact Kd.R_mono (Kd.R_far (p := ⟨gb134, 2, none⟩) (Kd.R_far (p := ⟨gb134, 1, none⟩) (Kd.R_far (p := ⟨gb134, 0, none⟩) (Kd.R_types HO129.out BK134.out (by decide)) (fun _ hk => hk.2) (.int .i64 t126)) (fun _ hk => hk.2) (.slice Ao39 t127.length co39)) (fun _ hk => hk.2) (.slice Ao40 t130.length co40)) (fun _ hk => ⟨hk.1.1.1.1.2, ⟨hk.1.1.1.2, ⟨hk.1.1.2, ⟨hk.1.2, hk.1.1.1.1.1.1⟩⟩⟩⟩)⟩, ⟨by (with_reducible repeat (first | apply Kd.R_alloc | apply Kd.R_drewN | apply Kd.R_drew)); exact Kd.R_mono (Kd.R_far (p := ⟨gb134, 2, none⟩) (Kd.R_far (p := ⟨gb134, 1, none⟩) (Kd.R_far (p := ⟨gb134, 0, none⟩) (Kd.R_types HO132.out BK134.out (by decide)) (fun _ hk => hk.2) (.int .i64 t126)) (fun _ hk => hk.2) (.slice Ao39 t127.length co39)) (fun _ hk => hk.2) (.slice Ao40 t130.length co40)) (fun _ hk => ⟨hk.1.1.1.1.2, ⟨hk.1.1.1.2, ⟨hk.1.1.2, ⟨hk.1.2, hk.1.1.1.1.1.1⟩⟩⟩⟩)⟩, ⟨by (with_reducible repeat (first | refine blk_drewN ?_ _ | refine blk_drew ?_ | refine blk_alloc ?_ _)); refine blk_far ?_ NB116_134.out _; (with_reducible repeat (first | refine blk_drewN ?_ _ | refine blk_drew ?_ | refine blk_alloc ?_ _)); refine blk_far ?_ NB116_134.out _; (with_reducible repeat (first | refine blk_drewN ?_ _ | refine blk_drew ?_ | refine blk_alloc ?_ _)); refine blk_far ?_ NB116_134.out _; (with_reducible repeat (first | refine blk_drewN ?_ _ | refine blk_drew ?_ | refine blk_alloc ?_ _)); exact BK116.out⟩, ⟨by (with_reducible repeat (first | refine blk_drewN ?_ _ | refine blk_drew ?_ | refine blk_alloc ?_ _)); refine blk_far ?_ NB125_134.out _; (with_reducible repeat (first | refine blk_drewN ?_ _ | refine blk_drew ?_ | refine blk_alloc ?_ _)); refine blk_far ?_ NB125_134.out _; (with_reducible repeat (first | refine blk_drewN ?_ _ | refine blk_drew ?_ | refine blk_alloc ?_ _)); refine blk_far ?_ NB125_134.out _; (with_reducible repeat (first | refine blk_drewN ?_ _ | refine blk_drew ?_ | refine blk_alloc ?_ _)); exact BK125.out⟩, ⟨by (with_reducible repeat (first | refine blk_drewN ?_ _ | refine blk_drew ?_ | refine blk_alloc ?_ _)); refine blk_put (cs := #[.int .i64 t126, .slice Ao39 t127.length co39, .slice none 0 0]) ?_ 2 _ rfl; (with_reducible repeat (first | refine blk_drewN ?_ _ | refine blk_drew ?_ | refine blk_alloc ?_ _)); refine blk_put (cs := #[.int .i64 t126, .slice none 0 0, .slice none 0 0]) ?_ 1 _ rfl; (with_reducible repeat (first | refine blk_drewN ?_ _ | refine blk_drew ?_ | refine blk_alloc ?_ _)); refine blk_put (cs := #[.int .i64 0, .slice none 0 0, .slice none 0 0]) ?_ 0 _ rfl; (with_reducible repeat (first | refine blk_drewN ?_ _ | refine blk_drew ?_ | refine blk_alloc ?_ _)); exact BK134.out⟩, ⟨by repeat (first | (with_reducible first | exact HB.out | apply below_alloc | apply pw_below_drewN | apply below_drew1 | refine below_set ?_ GE116.out | refine below_set ?_ GE125.out | refine below_set ?_ GE134.out) | exact HB.out)⟩⟩
        case rest =>
          clear HC16
          try clear c1
          try clear c2
          try clear p2
          try clear c3
          try clear c4
          try clear c5
          try clear c6
          try clear p6
          try clear c7
          try clear c9
          try clear c9b0
          try clear c9b1
          try clear c11
          try clear c11b0
          try clear c11b1
          try clear c25
          try clear c26
          try clear c28
          try clear c30
          try clear c36
          try clear c37
          try clear c41
          try clear c41b0
          try clear c41b1
          try clear c42
          try clear c42b0
          try clear c42b1
          try clear c43
          try clear c43b0
          try clear c43b1
          try clear c44
          try clear c44b0
          try clear c44b1
          try clear c45
          try clear c45b0
          try clear c45b1
          try clear c46
          try clear c46b0
          try clear c46b1
          try clear c47
          try clear c47b0
          try clear c47b1
          try clear c49
          try clear c50
          try clear c52
          try clear c55
          try clear c56
          try clear c58
          try clear c59
          try clear c61
          try clear c62
          try clear hcz25_0
          try clear hcz25_1
          try clear hcz25_2
          try clear hcz31_0
          try clear hcz31_1
          try clear hcz31_2
          try clear hcz38_0
          try clear hcz38_1
          try clear hcz38_2
          try clear hcz51_0
          try clear hcz51_1
          try clear hcz51_2
          try clear hcz53_0
          try clear hcz53_1
          try clear hcz53_2
          try clear hcz57_0
          try clear hcz57_1
          try clear hcz57_2
          try clear hcz60_0
          try clear hcz60_1
          try clear hcz60_2
          try clear hcz63_0
          try clear hcz63_1
          try clear hcz63_2
          try clear hfz25_0
          try clear hfz25_1
          try clear hfz25_2
          try clear hfz31_0
          try clear hfz31_1
          try clear hfz31_2
          try clear hfz38_0
          try clear hfz38_1
          try clear hfz38_2
          try clear hfz51_0
          try clear hfz51_1
          try clear hfz51_2
          try clear hfz53_0
          try clear hfz53_1
          try clear hfz53_2
          try clear hfz57_0
          try clear hfz57_1
          try clear hfz57_2
          try clear hfz60_0
          try clear hfz60_1
          try clear hfz60_2
          try clear hfz63_0
          try clear hfz63_1
          try clear hfz63_2
          obtain ⟨kq, x106_15, rfl, HA, HJ15, HO_117001, HO_117002, HO_126001, HO_126002, HO_135001, HO_135002, BK116, BK125, BK134, HB⟩ := hcut
          cases kq with
          | zero => exact absurd HA.out (by simp [planispherelaw02_SealVerifies.j0])
          | succ kj15 =>
            have H := HA.out
            clear HA
            simp only [planispherelaw02_SealVerifies.j0] at H
            by_cases c64 : x106_15 = true
            · subst c64
              have H1 : (some false) = some r := by rw [if_pos rfl] at H; exact H
              clear H
              have H := H1
              clear H1
              obtain rfl := Option.some.inj H
              go_wp2
              go_ret
              exact ⟨by first | rfl | (simp [errW_none, errW_some] <;> rfl) | (simp only [← hji8, ← hji10]; first | rfl | (simp [errW_none, errW_some] <;> rfl)) | (simp [*, errW_none, errW_some] <;> rfl), by repeat (first | (with_reducible first | exact HB.out | apply below_alloc | apply pw_below_drewN | apply below_drew1 | refine below_set ?_ GE116.out | refine below_set ?_ GE125.out | refine below_set ?_ GE134.out) | exact HB.out)⟩
            · replace c64 := Bool.eq_false_iff.mpr c64
              subst c64
              have H1 : (planispherelaw02_SealVerifies.l0 kj15 a3 t101 t106 0 t108 t109 t112 t126 t127 t130) = some r := by rw [if_neg (show ¬ (false = true) by decide)] at H; exact H
              clear H
              have H := H1
              clear H1
              have H' := Aside0.mk H
              clear H
              go_wp2
              go_loopg [20] kj15 (fun kq v20 w' => ∃ (x20_2 : Int), v20 = .int .i64 x20_2 ∧ Aside0 (planispherelaw02_SealVerifies.l0 kq a3 t101 t106 x20_2 t108 t109 t112 t126 t127 t130 = some r) ∧ Aside0 (kq ≤ kj15) ∧ Aside0 (Kd.R Kd.string 9 w' w.heap.size (fun k_ => some k_ ≠ ((.slice Ao27 t112.length co27) : Value).ownBlock ∧ some k_ ≠ ((.slice Ao32 t118.length co32) : Value).ownBlock ∧ some k_ ≠ ((.slice Ao33 t121.length co33) : Value).ownBlock ∧ some k_ ≠ ((.slice Ao39 t127.length co39) : Value).ownBlock ∧ some k_ ≠ ((.slice Ao40 t130.length co40) : Value).ownBlock) (.slice Ao26 t109.length co26) t109) ∧ Aside0 (Kd.R Kd.string 9 w' w.heap.size (fun k_ => some k_ ≠ ((.slice Ao26 t109.length co26) : Value).ownBlock ∧ some k_ ≠ ((.slice Ao32 t118.length co32) : Value).ownBlock ∧ some k_ ≠ ((.slice Ao33 t121.length co33) : Value).ownBlock ∧ some k_ ≠ ((.slice Ao39 t127.length co39) : Value).ownBlock ∧ some k_ ≠ ((.slice Ao40 t130.length co40) : Value).ownBlock) (.slice Ao27 t112.length co27) t112) ∧ Aside0 (Kd.R Kd.string 9 w' w.heap.size (fun k_ => some k_ ≠ ((.slice Ao26 t109.length co26) : Value).ownBlock ∧ some k_ ≠ ((.slice Ao27 t112.length co27) : Value).ownBlock ∧ some k_ ≠ ((.slice Ao33 t121.length co33) : Value).ownBlock ∧ some k_ ≠ ((.slice Ao39 t127.length co39) : Value).ownBlock ∧ some k_ ≠ ((.slice Ao40 t130.length co40) : Value).ownBlock) (.slice Ao32 t118.length co32) t118) ∧ Aside0 (Kd.R Kd.string 9 w' w.heap.size (fun k_ => some k_ ≠ ((.slice Ao26 t109.length co26) : Value).ownBlock ∧ some k_ ≠ ((.slice Ao27 t112.length co27) : Value).ownBlock ∧ some k_ ≠ ((.slice Ao32 t118.length co32) : Value).ownBlock ∧ some k_ ≠ ((.slice Ao39 t127.length co39) : Value).ownBlock ∧ some k_ ≠ ((.slice Ao40 t130.length co40) : Value).ownBlock) (.slice Ao33 t121.length co33) t121) ∧ Aside0 (Kd.R Kd.string 9 w' w.heap.size (fun k_ => some k_ ≠ ((.slice Ao26 t109.length co26) : Value).ownBlock ∧ some k_ ≠ ((.slice Ao27 t112.length co27) : Value).ownBlock ∧ some k_ ≠ ((.slice Ao32 t118.length co32) : Value).ownBlock ∧ some k_ ≠ ((.slice Ao33 t121.length co33) : Value).ownBlock ∧ some k_ ≠ ((.slice Ao40 t130.length co40) : Value).ownBlock) (.slice Ao39 t127.length co39) t127) ∧ Aside0 (Kd.R Kd.string 9 w' w.heap.size (fun k_ => some k_ ≠ ((.slice Ao26 t109.length co26) : Value).ownBlock ∧ some k_ ≠ ((.slice Ao27 t112.length co27) : Value).ownBlock ∧ some k_ ≠ ((.slice Ao32 t118.length co32) : Value).ownBlock ∧ some k_ ≠ ((.slice Ao33 t121.length co33) : Value).ownBlock ∧ some k_ ≠ ((.slice Ao39 t127.length co39) : Value).ownBlock) (.slice Ao40 t130.length co40) t130) ∧ Aside0 (w'.heap[gb116]? = some (.cells #[.int .i64 t108, (.slice Ao26 t109.length co26), (.slice Ao27 t112.length co27)] 35 (0, 0))) ∧ Aside0 (w'.heap[gb125]? = some (.cells #[.int .i64 t117, (.slice Ao32 t118.length co32), (.slice Ao33 t121.length co33)] 35 (0, 0))) ∧ Aside0 (w'.heap[gb134]? = some (.cells #[.int .i64 t126, (.slice Ao39 t127.length co39), (.slice Ao40 t130.length co40)] 35 (0, 0))) ∧ Aside0 (Below w.heap.size w w'))
              case atStart => exact ⟨(0), (by first | rfl | (simp; done) | (simp [*]; done)), H', ⟨Nat.le_refl _⟩, ⟨by (with_reducible repeat (first | apply Kd.R_alloc | apply Kd.R_drewN | apply Kd.R_drew)); exact HO_117001.out⟩, ⟨by (with_reducible repeat (first | apply Kd.R_alloc | apply Kd.R_drewN | apply Kd.R_drew)); exact HO_117002.out⟩, ⟨by (with_reducible repeat (first | apply Kd.R_alloc | apply Kd.R_drewN | apply Kd.R_drew)); exact HO_126001.out⟩, ⟨by (with_reducible repeat (first | apply Kd.R_alloc | apply Kd.R_drewN | apply Kd.R_drew)); exact HO_126002.out⟩, ⟨by (with_reducible repeat (first | apply Kd.R_alloc | apply Kd.R_drewN | apply Kd.R_drew)); exact HO_135001.out⟩, ⟨by (with_reducible repeat (first | apply Kd.R_alloc | apply Kd.R_drewN | apply Kd.R_drew)); exact HO_135002.out⟩, ⟨by (with_reducible repeat (first | refine blk_drewN ?_ _ | refine blk_drew ?_ | refine blk_alloc ?_ _)); exact BK116.out⟩, ⟨by (with_reducible repeat (first | refine blk_drewN ?_ _ | refine blk_drew ?_ | refine blk_alloc ?_ _)); exact BK125.out⟩, ⟨by (with_reducible repeat (first | refine blk_drewN ?_ _ | refine blk_drew ?_ | refine blk_alloc ?_ _)); exact BK134.out⟩, ⟨by repeat (first | (with_reducible first | exact HB.out | apply below_alloc | apply pw_below_drewN | apply below_drew1 | refine below_set ?_ GE116.out | refine below_set ?_ GE125.out | refine below_set ?_ GE134.out) | exact HB.out)⟩⟩
              case round =>
                clear H'
                try clear c1
                try clear c2
                try clear p2
                try clear c3
                try clear c4
                try clear c5
                try clear c6
                try clear p6
                try clear c7
                try clear c9
                try clear c9b0
                try clear c9b1
                try clear c11
                try clear c11b0
                try clear c11b1
                try clear c25
                try clear c26
                try clear c28
                try clear c30
                try clear c36
                try clear c37
                try clear c41
                try clear c41b0
                try clear c41b1
                try clear c42
                try clear c42b0
                try clear c42b1
                try clear c43
                try clear c43b0
                try clear c43b1
                try clear c44
                try clear c44b0
                try clear c44b1
                try clear c45
                try clear c45b0
                try clear c45b1
                try clear c46
                try clear c46b0
                try clear c46b1
                try clear c47
                try clear c47b0
                try clear c47b1
                try clear c49
                try clear c50
                try clear c52
                try clear c55
                try clear c56
                try clear c58
                try clear c59
                try clear c61
                try clear c62
                try clear c64
                try clear p64
                try clear hcz25_0
                try clear hcz25_1
                try clear hcz25_2
                try clear hcz31_0
                try clear hcz31_1
                try clear hcz31_2
                try clear hcz38_0
                try clear hcz38_1
                try clear hcz38_2
                try clear hcz51_0
                try clear hcz51_1
                try clear hcz51_2
                try clear hcz53_0
                try clear hcz53_1
                try clear hcz53_2
                try clear hcz57_0
                try clear hcz57_1
                try clear hcz57_2
                try clear hcz60_0
                try clear hcz60_1
                try clear hcz60_2
                try clear hcz63_0
                try clear hcz63_1
                try clear hcz63_2
                try clear hfz25_0
                try clear hfz25_1
                try clear hfz25_2
                try clear hfz31_0
                try clear hfz31_1
                try clear hfz31_2
                try clear hfz38_0
                try clear hfz38_1
                try clear hfz38_2
                try clear hfz51_0
                try clear hfz51_1
                try clear hfz51_2
                try clear hfz53_0
                try clear hfz53_1
                try clear hfz53_2
                try clear hfz57_0
                try clear hfz57_1
                try clear hfz57_2
                try clear hfz60_0
                try clear hfz60_1
                try clear hfz60_2
                try clear hfz63_0
                try clear hfz63_1
                try clear hfz63_2
                try clear p2
                try clear p6
                obtain ⟨x20_2, rfl, HA, HK2, HO_117001, HO_117002, HO_126001, HO_126002, HO_135001, HO_135002, BK116, BK125, BK134, HB⟩ := hrel
                cases gk with
                | zero => exact absurd HA.out (by simp [planispherelaw02_SealVerifies.l0])
                | succ k2 =>
                  have H := HA.out
                  clear HA
                  simp only [planispherelaw02_SealVerifies.l0] at H
                  by_cases c65 : x20_2 < (t109.length : Int)
                  · rw [if_pos c65] at H
                    have c65b0 : decide (x20_2 < (t109.length : Int)) = true := decide_eq_true c65
                    clear c65
                    by_cases c66 : 0 ≤ x20_2
                    · rw [if_pos c66] at H
                      have c66b0 : decide (0 ≤ x20_2) = true := decide_eq_true c66
                      clear c66
                      replace H := Option.bind_eq_some_iff.mp H
                      obtain ⟨t137, A670, H⟩ := H
                      replace H : (if t137 = true then (planispherelaw02_SealVerifies.l0 k2 a3 t101 t106 (wrap64 (x20_2 + 1)) t108 t109 t112 t126 t127 t130) else (some false)) = some r := H
                      have A67 := Aside0.mk A670
                      clear A670
                      by_cases c68 : t137 = true
                      · subst c68
                        have H1 : (planispherelaw02_SealVerifies.l0 k2 a3 t101 t106 (wrap64 (x20_2 + 1)) t108 t109 t112 t126 t127 t130) = some r := by rw [if_pos rfl] at H; exact H
                        clear H
                        have H := H1
                        clear H1
                        have H' := Aside0.mk H
                        clear H
                        have hnb69 := NB116_125.out
                        have hnc69 := NB125_116.out
                        have hnb70 := NB116_134.out
                        have hnc70 := NB134_116.out
                        have hcz71_0 : wr.cell? ⟨gb116, 0, none⟩ = some (.int .i64 t108) := (blk_cell BK116.out 0).trans rfl
                        have hcz71_1 : wr.cell? ⟨gb116, 1, none⟩ = some (.slice Ao26 t109.length co26) := (blk_cell BK116.out 1).trans rfl
                        have hcz71_2 : wr.cell? ⟨gb116, 2, none⟩ = some (.slice Ao27 t112.length co27) := (blk_cell BK116.out 2).trans rfl
                        have hfz71_0 := blk_frozen BK116.out 0
                        have hfz71_1 := blk_frozen BK116.out 1
                        have hfz71_2 := blk_frozen BK116.out 2
                        have p136 : 0 ≤ (x20_2 : Int) := of_decide_eq_true (by first | (with_reducible assumption) | assumption)
                        have q136 : x20_2 < (t109.length : Int) := of_decide_eq_true (by first | (with_reducible assumption) | assumption)
                        obtain ⟨ad136, e136, hx136_0⟩ := Kd.at_string (Kd.R_reads' HO_117001.out).2.2 x20_2 p136 q136
                        cases e136
                        replace p136 := eq_true p136
                        replace q136 := eq_true q136
                        go_wp2_with (first | ((with_reducible refine gate_callee (f := 21) rfl ?_); refine goesL_ (some 119) rfl rfl Tryd.func21 (by kernel_rfl) rfl #[.string (rdOf ByteArray.empty t109 x20_2)] rfl (by (try simp only [List.map_toArray, List.map_cons, List.map_nil]); first | done | rfl | (simp only [List.length_drop, List.length_take]; rfl)) ?_; (with_reducible refine (digest_Is.calls (rdOf ByteArray.empty t109 x20_2) true _ A67.out).mono ?_); clear A67; rintro e w72 ⟨rfl, hb⟩; refine ⟨_, rfl, ?_⟩; have n0_ := Aside0.mk (Kd.R_below (by (with_reducible repeat (first | apply Kd.R_alloc | apply Kd.R_drewN | apply Kd.R_drew)); exact HO_117001.out) hb); have n1_ := Aside0.mk (Kd.R_below (by (with_reducible repeat (first | apply Kd.R_alloc | apply Kd.R_drewN | apply Kd.R_drew)); exact HO_117002.out) hb); have n2_ := Aside0.mk (Kd.R_below (by (with_reducible repeat (first | apply Kd.R_alloc | apply Kd.R_drewN | apply Kd.R_drew)); exact HO_126001.out) hb); have n3_ := Aside0.mk (Kd.R_below (by (with_reducible repeat (first | apply Kd.R_alloc | apply Kd.R_drewN | apply Kd.R_drew)); exact HO_126002.out) hb); have n4_ := Aside0.mk (Kd.R_below (by (with_reducible repeat (first | apply Kd.R_alloc | apply Kd.R_drewN | apply Kd.R_drew)); exact HO_135001.out) hb); have n5_ := Aside0.mk (Kd.R_below (by (with_reducible repeat (first | apply Kd.R_alloc | apply Kd.R_drewN | apply Kd.R_drew)); exact HO_135002.out) hb); have n6_ := Aside0.mk (blk_below (g := gb116) (o := .cells #[.int .i64 t108, .slice (some ad136) t109.length co26, .slice Ao27 t112.length co27] 35 (0, 0)) (by (with_reducible repeat (first | refine blk_drewN ?_ _ | refine blk_drew ?_ | refine blk_alloc ?_ _)); exact BK116.out) hb); have n7_ := Aside0.mk (blk_below (g := gb125) (o := .cells #[.int .i64 t117, .slice Ao32 t118.length co32, .slice Ao33 t121.length co33] 35 (0, 0)) (by (with_reducible repeat (first | refine blk_drewN ?_ _ | refine blk_drew ?_ | refine blk_alloc ?_ _)); exact BK125.out) hb); have n8_ := Aside0.mk (blk_below (g := gb134) (o := .cells #[.int .i64 t126, .slice Ao39 t127.length co39, .slice Ao40 t130.length co40] 35 (0, 0)) (by (with_reducible repeat (first | refine blk_drewN ?_ _ | refine blk_drew ?_ | refine blk_alloc ?_ _)); exact BK134.out) hb); have n9_ := Aside0.mk (below_step (by repeat (first | (with_reducible first | exact HB.out | apply below_alloc | apply pw_below_drewN | apply below_drew1 | refine below_set ?_ GE116.out | refine below_set ?_ GE125.out | refine below_set ?_ GE134.out) | exact HB.out)) hb); clear HO_117001; clear HO_117002; clear HO_126001; clear HO_126002; clear HO_135001; clear HO_135002; clear BK116; clear BK125; clear BK134; clear HB; have HO_117001 := n0_; have HO_117002 := n1_; have HO_126001 := n2_; have HO_126002 := n3_; have HO_135001 := n4_; have HO_135002 := n5_; have BK116 := n6_; have BK125 := n7_; have BK134 := n8_; have HB := n9_; clear n0_ n1_ n2_ n3_ n4_ n5_ n6_ n7_ n8_ n9_; (try clear hb); (try clear hb2); (try clear hk); (try clear hi)))
                        go_roundg k2
                        case measure => have := HJ15.out; have := HK2.out; omega
                        case rel => exact ⟨(wrap64 (x20_2 + 1)), (by first | rfl | (simp; done) | (simp [*]; done)), H', ⟨by have := HJ15.out; have := HK2.out; omega⟩, ⟨by (with_reducible repeat (first | apply Kd.R_alloc | apply Kd.R_drewN | apply Kd.R_drew)); exact HO_117001.out⟩, ⟨by (with_reducible repeat (first | apply Kd.R_alloc | apply Kd.R_drewN | apply Kd.R_drew)); exact HO_117002.out⟩, ⟨by (with_reducible repeat (first | apply Kd.R_alloc | apply Kd.R_drewN | apply Kd.R_drew)); exact HO_126001.out⟩, ⟨by (with_reducible repeat (first | apply Kd.R_alloc | apply Kd.R_drewN | apply Kd.R_drew)); exact HO_126002.out⟩, ⟨by (with_reducible repeat (first | apply Kd.R_alloc | apply Kd.R_drewN | apply Kd.R_drew)); exact HO_135001.out⟩, ⟨by (with_reducible repeat (first | apply Kd.R_alloc | apply Kd.R_drewN | apply Kd.R_drew)); exact HO_135002.out⟩, ⟨by (with_reducible repeat (first | refine blk_drewN ?_ _ | refine blk_drew ?_ | refine blk_alloc ?_ _)); exact BK116.out⟩, ⟨by (with_reducible repeat (first | refine blk_drewN ?_ _ | refine blk_drew ?_ | refine blk_alloc ?_ _)); exact BK125.out⟩, ⟨by (with_reducible repeat (first | refine blk_drewN ?_ _ | refine blk_drew ?_ | refine blk_alloc ?_ _)); exact BK134.out⟩, ⟨by repeat (first | (with_reducible first | exact HB.out | apply below_alloc | apply pw_below_drewN | apply below_drew1 | refine below_set ?_ GE116.out | refine below_set ?_ GE125.out | refine below_set ?_ GE134.out) | exact HB.out)⟩⟩
                      · replace c68 := Bool.eq_false_iff.mpr c68
                        subst c68
                        have H1 : (some false) = some r := by rw [if_neg (show ¬ (false = true) by decide)] at H; exact H
                        clear H
                        have H := H1
                        clear H1
                        obtain rfl := Option.some.inj H
                        have hnb73 := NB116_125.out
                        have hnc73 := NB125_116.out
                        have hnb74 := NB116_134.out
                        have hnc74 := NB134_116.out
                        have hcz75_0 : wr.cell? ⟨gb116, 0, none⟩ = some (.int .i64 t108) := (blk_cell BK116.out 0).trans rfl
                        have hcz75_1 : wr.cell? ⟨gb116, 1, none⟩ = some (.slice Ao26 t109.length co26) := (blk_cell BK116.out 1).trans rfl
                        have hcz75_2 : wr.cell? ⟨gb116, 2, none⟩ = some (.slice Ao27 t112.length co27) := (blk_cell BK116.out 2).trans rfl
                        have hfz75_0 := blk_frozen BK116.out 0
                        have hfz75_1 := blk_frozen BK116.out 1
                        have hfz75_2 := blk_frozen BK116.out 2
                        have p136 : 0 ≤ (x20_2 : Int) := of_decide_eq_true (by first | (with_reducible assumption) | assumption)
                        have q136 : x20_2 < (t109.length : Int) := of_decide_eq_true (by first | (with_reducible assumption) | assumption)
                        obtain ⟨ad136, e136, hx136_0⟩ := Kd.at_string (Kd.R_reads' HO_117001.out).2.2 x20_2 p136 q136
                        cases e136
                        replace p136 := eq_true p136
                        replace q136 := eq_true q136
                        go_wp2_with (first | ((with_reducible refine gate_callee (f := 21) rfl ?_); refine goesL_ (some 119) rfl rfl Tryd.func21 (by kernel_rfl) rfl #[.string (rdOf ByteArray.empty t109 x20_2)] rfl (by (try simp only [List.map_toArray, List.map_cons, List.map_nil]); first | done | rfl | (simp only [List.length_drop, List.length_take]; rfl)) ?_; (with_reducible refine (digest_Is.calls (rdOf ByteArray.empty t109 x20_2) false _ A67.out).mono ?_); clear A67; rintro e w76 ⟨rfl, hb⟩; refine ⟨_, rfl, ?_⟩; have n0_ := Aside0.mk (Kd.R_below (by (with_reducible repeat (first | apply Kd.R_alloc | apply Kd.R_drewN | apply Kd.R_drew)); exact HO_117001.out) hb); have n1_ := Aside0.mk (Kd.R_below (by (with_reducible repeat (first | apply Kd.R_alloc | apply Kd.R_drewN | apply Kd.R_drew)); exact HO_117002.out) hb); have n2_ := Aside0.mk (Kd.R_below (by (with_reducible repeat (first | apply Kd.R_alloc | apply Kd.R_drewN | apply Kd.R_drew)); exact HO_126001.out) hb); have n3_ := Aside0.mk (Kd.R_below (by (with_reducible repeat (first | apply Kd.R_alloc | apply Kd.R_drewN | apply Kd.R_drew)); exact HO_126002.out) hb); have n4_ := Aside0.mk (Kd.R_below (by (with_reducible repeat (first | apply Kd.R_alloc | apply Kd.R_drewN | apply Kd.R_drew)); exact HO_135001.out) hb); have n5_ := Aside0.mk (Kd.R_below (by (with_reducible repeat (first | apply Kd.R_alloc | apply Kd.R_drewN | apply Kd.R_drew)); exact HO_135002.out) hb); have n6_ := Aside0.mk (blk_below (g := gb116) (o := .cells #[.int .i64 t108, .slice (some ad136) t109.length co26, .slice Ao27 t112.length co27] 35 (0, 0)) (by (with_reducible repeat (first | refine blk_drewN ?_ _ | refine blk_drew ?_ | refine blk_alloc ?_ _)); exact BK116.out) hb); have n7_ := Aside0.mk (blk_below (g := gb125) (o := .cells #[.int .i64 t117, .slice Ao32 t118.length co32, .slice Ao33 t121.length co33] 35 (0, 0)) (by (with_reducible repeat (first | refine blk_drewN ?_ _ | refine blk_drew ?_ | refine blk_alloc ?_ _)); exact BK125.out) hb); have n8_ := Aside0.mk (blk_below (g := gb134) (o := .cells #[.int .i64 t126, .slice Ao39 t127.length co39, .slice Ao40 t130.length co40] 35 (0, 0)) (by (with_reducible repeat (first | refine blk_drewN ?_ _ | refine blk_drew ?_ | refine blk_alloc ?_ _)); exact BK134.out) hb); have n9_ := Aside0.mk (below_step (by repeat (first | (with_reducible first | exact HB.out | apply below_alloc | apply pw_below_drewN | apply below_drew1 | refine below_set ?_ GE116.out | refine below_set ?_ GE125.out | refine below_set ?_ GE134.out) | exact HB.out)) hb); clear HO_117001; clear HO_117002; clear HO_126001; clear HO_126002; clear HO_135001; clear HO_135002; clear BK116; clear BK125; clear BK134; clear HB; have HO_117001 := n0_; have HO_117002 := n1_; have HO_126001 := n2_; have HO_126002 := n3_; have HO_135001 := n4_; have HO_135002 := n5_; have BK116 := n6_; have BK125 := n7_; have BK134 := n8_; have HB := n9_; clear n0_ n1_ n2_ n3_ n4_ n5_ n6_ n7_ n8_ n9_; (try clear hb); (try clear hb2); (try clear hk); (try clear hi)))
                        go_ret
                        exact ⟨by first | rfl | (simp [errW_none, errW_some] <;> rfl) | (simp only [← hji8, ← hji10]; first | rfl | (simp [errW_none, errW_some] <;> rfl)) | (simp [*, errW_none, errW_some] <;> rfl), by repeat (first | (with_reducible first | exact HB.out | apply below_alloc | apply pw_below_drewN | apply below_drew1 | refine below_set ?_ GE116.out | refine below_set ?_ GE125.out | refine below_set ?_ GE134.out) | exact HB.out)⟩
                    · rw [if_neg c66] at H
                      exact absurd H (by simp)
                  · rw [if_neg c65] at H
                    have c65b0 : decide (x20_2 < (t109.length : Int)) = false := decide_eq_false c65
                    clear c65
                    have H' := Aside0.mk H
                    clear H
                    have hnb77 := NB116_125.out
                    have hnc77 := NB125_116.out
                    have hnb78 := NB116_134.out
                    have hnc78 := NB134_116.out
                    have hcz79_0 : wr.cell? ⟨gb116, 0, none⟩ = some (.int .i64 t108) := (blk_cell BK116.out 0).trans rfl
                    have hcz79_1 : wr.cell? ⟨gb116, 1, none⟩ = some (.slice Ao26 t109.length co26) := (blk_cell BK116.out 1).trans rfl
                    have hcz79_2 : wr.cell? ⟨gb116, 2, none⟩ = some (.slice Ao27 t112.length co27) := (blk_cell BK116.out 2).trans rfl
                    have hfz79_0 := blk_frozen BK116.out 0
                    have hfz79_1 := blk_frozen BK116.out 1
                    have hfz79_2 := blk_frozen BK116.out 2
                    go_wp2
                    go_loopg [21] k2 (fun kq v21 w' => ∃ (x21_3 : Int), v21 = .int .i64 x21_3 ∧ Aside0 (planispherelaw02_SealVerifies.l1 kq a3 t101 t106 x21_3 t108 t109 t112 t126 t127 t130 = some r) ∧ Aside0 (kq ≤ k2) ∧ Aside0 (Kd.R Kd.string 9 w' w.heap.size (fun k_ => some k_ ≠ ((.slice Ao27 t112.length co27) : Value).ownBlock ∧ some k_ ≠ ((.slice Ao32 t118.length co32) : Value).ownBlock ∧ some k_ ≠ ((.slice Ao33 t121.length co33) : Value).ownBlock ∧ some k_ ≠ ((.slice Ao39 t127.length co39) : Value).ownBlock ∧ some k_ ≠ ((.slice Ao40 t130.length co40) : Value).ownBlock) (.slice Ao26 t109.length co26) t109) ∧ Aside0 (Kd.R Kd.string 9 w' w.heap.size (fun k_ => some k_ ≠ ((.slice Ao26 t109.length co26) : Value).ownBlock ∧ some k_ ≠ ((.slice Ao32 t118.length co32) : Value).ownBlock ∧ some k_ ≠ ((.slice Ao33 t121.length co33) : Value).ownBlock ∧ some k_ ≠ ((.slice Ao39 t127.length co39) : Value).ownBlock ∧ some k_ ≠ ((.slice Ao40 t130.length co40) : Value).ownBlock) (.slice Ao27 t112.length co27) t112) ∧ Aside0 (Kd.R Kd.string 9 w' w.heap.size (fun k_ => some k_ ≠ ((.slice Ao26 t109.length co26) : Value).ownBlock ∧ some k_ ≠ ((.slice Ao27 t112.length co27) : Value).ownBlock ∧ some k_ ≠ ((.slice Ao33 t121.length co33) : Value).ownBlock ∧ some k_ ≠ ((.slice Ao39 t127.length co39) : Value).ownBlock ∧ some k_ ≠ ((.slice Ao40 t130.length co40) : Value).ownBlock) (.slice Ao32 t118.length co32) t118) ∧ Aside0 (Kd.R Kd.string 9 w' w.heap.size (fun k_ => some k_ ≠ ((.slice Ao26 t109.length co26) : Value).ownBlock ∧ some k_ ≠ ((.slice Ao27 t112.length co27) : Value).ownBlock ∧ some k_ ≠ ((.slice Ao32 t118.length co32) : Value).ownBlock ∧ some k_ ≠ ((.slice Ao39 t127.length co39) : Value).ownBlock ∧ some k_ ≠ ((.slice Ao40 t130.length co40) : Value).ownBlock) (.slice Ao33 t121.length co33) t121) ∧ Aside0 (Kd.R Kd.string 9 w' w.heap.size (fun k_ => some k_ ≠ ((.slice Ao26 t109.length co26) : Value).ownBlock ∧ some k_ ≠ ((.slice Ao27 t112.length co27) : Value).ownBlock ∧ some k_ ≠ ((.slice Ao32 t118.length co32) : Value).ownBlock ∧ some k_ ≠ ((.slice Ao33 t121.length co33) : Value).ownBlock ∧ some k_ ≠ ((.slice Ao40 t130.length co40) : Value).ownBlock) (.slice Ao39 t127.length co39) t127) ∧ Aside0 (Kd.R Kd.string 9 w' w.heap.size (fun k_ => some k_ ≠ ((.slice Ao26 t109.length co26) : Value).ownBlock ∧ some k_ ≠ ((.slice Ao27 t112.length co27) : Value).ownBlock ∧ some k_ ≠ ((.slice Ao32 t118.length co32) : Value).ownBlock ∧ some k_ ≠ ((.slice Ao33 t121.length co33) : Value).ownBlock ∧ some k_ ≠ ((.slice Ao39 t127.length co39) : Value).ownBlock) (.slice Ao40 t130.length co40) t130) ∧ Aside0 (w'.heap[gb116]? = some (.cells #[.int .i64 t108, (.slice Ao26 t109.length co26), (.slice Ao27 t112.length co27)] 35 (0, 0))) ∧ Aside0 (w'.heap[gb125]? = some (.cells #[.int .i64 t117, (.slice Ao32 t118.length co32), (.slice Ao33 t121.length co33)] 35 (0, 0))) ∧ Aside0 (w'.heap[gb134]? = some (.cells #[.int .i64 t126, (.slice Ao39 t127.length co39), (.slice Ao40 t130.length co40)] 35 (0, 0))) ∧ Aside0 (Below w.heap.size w w'))
                    case atStart => exact ⟨(0), (by first | rfl | (simp; done) | (simp [*]; done)), H', ⟨Nat.le_refl _⟩, ⟨by (with_reducible repeat (first | apply Kd.R_alloc | apply Kd.R_drewN | apply Kd.R_drew)); exact HO_117001.out⟩, ⟨by (with_reducible repeat (first | apply Kd.R_alloc | apply Kd.R_drewN | apply Kd.R_drew)); exact HO_117002.out⟩, ⟨by (with_reducible repeat (first | apply Kd.R_alloc | apply Kd.R_drewN | apply Kd.R_drew)); exact HO_126001.out⟩, ⟨by (with_reducible repeat (first | apply Kd.R_alloc | apply Kd.R_drewN | apply Kd.R_drew)); exact HO_126002.out⟩, ⟨by (with_reducible repeat (first | apply Kd.R_alloc | apply Kd.R_drewN | apply Kd.R_drew)); exact HO_135001.out⟩, ⟨by (with_reducible repeat (first | apply Kd.R_alloc | apply Kd.R_drewN | apply Kd.R_drew)); exact HO_135002.out⟩, ⟨by (with_reducible repeat (first | refine blk_drewN ?_ _ | refine blk_drew ?_ | refine blk_alloc ?_ _)); exact BK116.out⟩, ⟨by (with_reducible repeat (first | refine blk_drewN ?_ _ | refine blk_drew ?_ | refine blk_alloc ?_ _)); exact BK125.out⟩, ⟨by (with_reducible repeat (first | refine blk_drewN ?_ _ | refine blk_drew ?_ | refine blk_alloc ?_ _)); exact BK134.out⟩, ⟨by repeat (first | (with_reducible first | exact HB.out | apply below_alloc | apply pw_below_drewN | apply below_drew1 | refine below_set ?_ GE116.out | refine below_set ?_ GE125.out | refine below_set ?_ GE134.out) | exact HB.out)⟩⟩
                    case round =>
                      clear H'
                      try clear c1
                      try clear p1
                      try clear q1
                      try clear hx1
                      try clear c2
                      try clear p2
                      try clear c3
                      try clear c4
                      try clear c5
                      try clear c6
                      try clear p6
                      try clear c7
                      try clear c9
                      try clear c9b0
                      try clear c9b1
                      try clear c11
                      try clear c11b0
                      try clear c11b1
                      try clear p13
                      try clear q13
                      try clear hx13
                      try clear c21
                      try clear c25
                      try clear c26
                      try clear c28
                      try clear c30
                      try clear c36
                      try clear c37
                      try clear c41
                      try clear c41b0
                      try clear c41b1
                      try clear c42
                      try clear c42b0
                      try clear c42b1
                      try clear c43
                      try clear c43b0
                      try clear c43b1
                      try clear c44
                      try clear c44b0
                      try clear c44b1
                      try clear c45
                      try clear c45b0
                      try clear c45b1
                      try clear c46
                      try clear c46b0
                      try clear c46b1
                      try clear c47
                      try clear c47b0
                      try clear c47b1
                      try clear c49
                      try clear c50
                      try clear c52
                      try clear c55
                      try clear c56
                      try clear c58
                      try clear c59
                      try clear c61
                      try clear c62
                      try clear c64
                      try clear p64
                      try clear c65
                      try clear c65b0
                      try clear c66
                      try clear c66b0
                      try clear c68
                      try clear c69
                      try clear c70
                      try clear c73
                      try clear c74
                      try clear c77
                      try clear c78
                      try clear hcz25_0
                      try clear hcz25_1
                      try clear hcz25_2
                      try clear hcz31_0
                      try clear hcz31_1
                      try clear hcz31_2
                      try clear hcz38_0
                      try clear hcz38_1
                      try clear hcz38_2
                      try clear hcz51_0
                      try clear hcz51_1
                      try clear hcz51_2
                      try clear hcz53_0
                      try clear hcz53_1
                      try clear hcz53_2
                      try clear hcz57_0
                      try clear hcz57_1
                      try clear hcz57_2
                      try clear hcz60_0
                      try clear hcz60_1
                      try clear hcz60_2
                      try clear hcz63_0
                      try clear hcz63_1
                      try clear hcz63_2
                      try clear hcz71_0
                      try clear hcz71_1
                      try clear hcz71_2
                      try clear hcz75_0
                      try clear hcz75_1
                      try clear hcz75_2
                      try clear hcz79_0
                      try clear hcz79_1
                      try clear hcz79_2
                      try clear hfz25_0
                      try clear hfz25_1
                      try clear hfz25_2
                      try clear hfz31_0
                      try clear hfz31_1
                      try clear hfz31_2
                      try clear hfz38_0
                      try clear hfz38_1
                      try clear hfz38_2
                      try clear hfz51_0
                      try clear hfz51_1
                      try clear hfz51_2
                      try clear hfz53_0
                      try clear hfz53_1
                      try clear hfz53_2
                      try clear hfz57_0
                      try clear hfz57_1
                      try clear hfz57_2
                      try clear hfz60_0
                      try clear hfz60_1
                      try clear hfz60_2
                      try clear hfz63_0
                      try clear hfz63_1
                      try clear hfz63_2
                      try clear hfz71_0
                      try clear hfz71_1
                      try clear hfz71_2
                      try clear hfz75_0
                      try clear hfz75_1
                      try clear hfz75_2
                      try clear hfz79_0
                      try clear hfz79_1
                      try clear hfz79_2
                      try clear hx136_0
                      try clear p136
                      try clear p2
                      try clear p6
                      try clear p64
                      try clear q136
                      obtain ⟨x21_3, rfl, HA, HK3, HO_117001, HO_117002, HO_126001, HO_126002, HO_135001, HO_135002, BK116, BK125, BK134, HB⟩ := hrel
                      cases gk with
                      | zero => exact absurd HA.out (by simp [planispherelaw02_SealVerifies.l1])
                      | succ k3 =>
                        have H := HA.out
                        clear HA
                        simp only [planispherelaw02_SealVerifies.l1] at H
                        by_cases c80 : x21_3 < (t112.length : Int)
                        · rw [if_pos c80] at H
                          have c80b0 : decide (x21_3 < (t112.length : Int)) = true := decide_eq_true c80
                          clear c80
                          by_cases c81 : 0 ≤ x21_3
                          · rw [if_pos c81] at H
                            have c81b0 : decide (0 ≤ x21_3) = true := decide_eq_true c81
                            clear c81
                            replace H := Option.bind_eq_some_iff.mp H
                            obtain ⟨t139, A820, H⟩ := H
                            replace H : (if t139 = true then (planispherelaw02_SealVerifies.l1 k3 a3 t101 t106 (wrap64 (x21_3 + 1)) t108 t109 t112 t126 t127 t130) else (some false)) = some r := H
                            have A82 := Aside0.mk A820
                            clear A820
                            by_cases c83 : t139 = true
                            · subst c83
                              have H1 : (planispherelaw02_SealVerifies.l1 k3 a3 t101 t106 (wrap64 (x21_3 + 1)) t108 t109 t112 t126 t127 t130) = some r := by rw [if_pos rfl] at H; exact H
                              clear H
                              have H := H1
                              clear H1
                              have H' := Aside0.mk H
                              clear H
                              have hnb84 := NB116_125.out
                              have hnc84 := NB125_116.out
                              have hnb85 := NB116_134.out
                              have hnc85 := NB134_116.out
                              have hcz86_0 : wr.cell? ⟨gb116, 0, none⟩ = some (.int .i64 t108) := (blk_cell BK116.out 0).trans rfl
                              have hcz86_1 : wr.cell? ⟨gb116, 1, none⟩ = some (.slice Ao26 t109.length co26) := (blk_cell BK116.out 1).trans rfl
                              have hcz86_2 : wr.cell? ⟨gb116, 2, none⟩ = some (.slice Ao27 t112.length co27) := (blk_cell BK116.out 2).trans rfl
                              have hfz86_0 := blk_frozen BK116.out 0
                              have hfz86_1 := blk_frozen BK116.out 1
                              have hfz86_2 := blk_frozen BK116.out 2
                              have p138 : 0 ≤ (x21_3 : Int) := of_decide_eq_true (by first | (with_reducible assumption) | assumption)
                              have q138 : x21_3 < (t112.length : Int) := of_decide_eq_true (by first | (with_reducible assumption) | assumption)
                              obtain ⟨ad138, e138, hx138_0⟩ := Kd.at_string (Kd.R_reads' HO_117002.out).2.2 x21_3 p138 q138
                              cases e138
                              replace p138 := eq_true p138
                              replace q138 := eq_true q138
                              go_wp2_with (first | ((with_reducible refine gate_callee (f := 21) rfl ?_); refine goesL_ (some 133) rfl rfl Tryd.func21 (by kernel_rfl) rfl #[.string (rdOf ByteArray.empty t112 x21_3)] rfl (by (try simp only [List.map_toArray, List.map_cons, List.map_nil]); first | done | rfl | (simp only [List.length_drop, List.length_take]; rfl)) ?_; (with_reducible refine (digest_Is.calls (rdOf ByteArray.empty t112 x21_3) true _ A82.out).mono ?_); clear A82; rintro e w87 ⟨rfl, hb⟩; refine ⟨_, rfl, ?_⟩; have n0_ := Aside0.mk (Kd.R_below (by (with_reducible repeat (first | apply Kd.R_alloc | apply Kd.R_drewN | apply Kd.R_drew)); exact HO_117001.out) hb); have n1_ := Aside0.mk (Kd.R_below (by (with_reducible repeat (first | apply Kd.R_alloc | apply Kd.R_drewN | apply Kd.R_drew)); exact HO_117002.out) hb); have n2_ := Aside0.mk (Kd.R_below (by (with_reducible repeat (first | apply Kd.R_alloc | apply Kd.R_drewN | apply Kd.R_drew)); exact HO_126001.out) hb); have n3_ := Aside0.mk (Kd.R_below (by (with_reducible repeat (first | apply Kd.R_alloc | apply Kd.R_drewN | apply Kd.R_drew)); exact HO_126002.out) hb); have n4_ := Aside0.mk (Kd.R_below (by (with_reducible repeat (first | apply Kd.R_alloc | apply Kd.R_drewN | apply Kd.R_drew)); exact HO_135001.out) hb); have n5_ := Aside0.mk (Kd.R_below (by (with_reducible repeat (first | apply Kd.R_alloc | apply Kd.R_drewN | apply Kd.R_drew)); exact HO_135002.out) hb); have n6_ := Aside0.mk (blk_below (g := gb116) (o := .cells #[.int .i64 t108, .slice Ao26 t109.length co26, .slice (some ad138) t112.length co27] 35 (0, 0)) (by (with_reducible repeat (first | refine blk_drewN ?_ _ | refine blk_drew ?_ | refine blk_alloc ?_ _)); exact BK116.out) hb); have n7_ := Aside0.mk (blk_below (g := gb125) (o := .cells #[.int .i64 t117, .slice Ao32 t118.length co32, .slice Ao33 t121.length co33] 35 (0, 0)) (by (with_reducible repeat (first | refine blk_drewN ?_ _ | refine blk_drew ?_ | refine blk_alloc ?_ _)); exact BK125.out) hb); have n8_ := Aside0.mk (blk_below (g := gb134) (o := .cells #[.int .i64 t126, .slice Ao39 t127.length co39, .slice Ao40 t130.length co40] 35 (0, 0)) (by (with_reducible repeat (first | refine blk_drewN ?_ _ | refine blk_drew ?_ | refine blk_alloc ?_ _)); exact BK134.out) hb); have n9_ := Aside0.mk (below_step (by repeat (first | (with_reducible first | exact HB.out | apply below_alloc | apply pw_below_drewN | apply below_drew1 | refine below_set ?_ GE116.out | refine below_set ?_ GE125.out | refine below_set ?_ GE134.out) | exact HB.out)) hb); clear HO_117001; clear HO_117002; clear HO_126001; clear HO_126002; clear HO_135001; clear HO_135002; clear BK116; clear BK125; clear BK134; clear HB; have HO_117001 := n0_; have HO_117002 := n1_; have HO_126001 := n2_; have HO_126002 := n3_; have HO_135001 := n4_; have HO_135002 := n5_; have BK116 := n6_; have BK125 := n7_; have BK134 := n8_; have HB := n9_; clear n0_ n1_ n2_ n3_ n4_ n5_ n6_ n7_ n8_ n9_; (try clear hb); (try clear hb2); (try clear hk); (try clear hi)))
                              go_roundg k3
                              case measure => have := HJ15.out; have := HK2.out; have := HK3.out; omega
                              case rel => exact ⟨(wrap64 (x21_3 + 1)), (by first | rfl | (simp; done) | (simp [*]; done)), H', ⟨by have := HJ15.out; have := HK2.out; have := HK3.out; omega⟩, ⟨by (with_reducible repeat (first | apply Kd.R_alloc | apply Kd.R_drewN | apply Kd.R_drew)); exact HO_117001.out⟩, ⟨by (with_reducible repeat (first | apply Kd.R_alloc | apply Kd.R_drewN | apply Kd.R_drew)); exact HO_117002.out⟩, ⟨by (with_reducible repeat (first | apply Kd.R_alloc | apply Kd.R_drewN | apply Kd.R_drew)); exact HO_126001.out⟩, ⟨by (with_reducible repeat (first | apply Kd.R_alloc | apply Kd.R_drewN | apply Kd.R_drew)); exact HO_126002.out⟩, ⟨by (with_reducible repeat (first | apply Kd.R_alloc | apply Kd.R_drewN | apply Kd.R_drew)); exact HO_135001.out⟩, ⟨by (with_reducible repeat (first | apply Kd.R_alloc | apply Kd.R_drewN | apply Kd.R_drew)); exact HO_135002.out⟩, ⟨by (with_reducible repeat (first | refine blk_drewN ?_ _ | refine blk_drew ?_ | refine blk_alloc ?_ _)); exact BK116.out⟩, ⟨by (with_reducible repeat (first | refine blk_drewN ?_ _ | refine blk_drew ?_ | refine blk_alloc ?_ _)); exact BK125.out⟩, ⟨by (with_reducible repeat (first | refine blk_drewN ?_ _ | refine blk_drew ?_ | refine blk_alloc ?_ _)); exact BK134.out⟩, ⟨by repeat (first | (with_reducible first | exact HB.out | apply below_alloc | apply pw_below_drewN | apply below_drew1 | refine below_set ?_ GE116.out | refine below_set ?_ GE125.out | refine below_set ?_ GE134.out) | exact HB.out)⟩⟩
                            · replace c83 := Bool.eq_false_iff.mpr c83
                              subst c83
                              have H1 : (some false) = some r := by rw [if_neg (show ¬ (false = true) by decide)] at H; exact H
                              clear H
                              have H := H1
                              clear H1
                              obtain rfl := Option.some.inj H
                              have hnb88 := NB116_125.out
                              have hnc88 := NB125_116.out
                              have hnb89 := NB116_134.out
                              have hnc89 := NB134_116.out
                              have hcz90_0 : wr.cell? ⟨gb116, 0, none⟩ = some (.int .i64 t108) := (blk_cell BK116.out 0).trans rfl
                              have hcz90_1 : wr.cell? ⟨gb116, 1, none⟩ = some (.slice Ao26 t109.length co26) := (blk_cell BK116.out 1).trans rfl
                              have hcz90_2 : wr.cell? ⟨gb116, 2, none⟩ = some (.slice Ao27 t112.length co27) := (blk_cell BK116.out 2).trans rfl
                              have hfz90_0 := blk_frozen BK116.out 0
                              have hfz90_1 := blk_frozen BK116.out 1
                              have hfz90_2 := blk_frozen BK116.out 2
                              have p138 : 0 ≤ (x21_3 : Int) := of_decide_eq_true (by first | (with_reducible assumption) | assumption)
                              have q138 : x21_3 < (t112.length : Int) := of_decide_eq_true (by first | (with_reducible assumption) | assumption)
                              obtain ⟨ad138, e138, hx138_0⟩ := Kd.at_string (Kd.R_reads' HO_117002.out).2.2 x21_3 p138 q138
                              cases e138
                              replace p138 := eq_true p138
                              replace q138 := eq_true q138
                              go_wp2_with (first | ((with_reducible refine gate_callee (f := 21) rfl ?_); refine goesL_ (some 133) rfl rfl Tryd.func21 (by kernel_rfl) rfl #[.string (rdOf ByteArray.empty t112 x21_3)] rfl (by (try simp only [List.map_toArray, List.map_cons, List.map_nil]); first | done | rfl | (simp only [List.length_drop, List.length_take]; rfl)) ?_; (with_reducible refine (digest_Is.calls (rdOf ByteArray.empty t112 x21_3) false _ A82.out).mono ?_); clear A82; rintro e w91 ⟨rfl, hb⟩; refine ⟨_, rfl, ?_⟩; have n0_ := Aside0.mk (Kd.R_below (by (with_reducible repeat (first | apply Kd.R_alloc | apply Kd.R_drewN | apply Kd.R_drew)); exact HO_117001.out) hb); have n1_ := Aside0.mk (Kd.R_below (by (with_reducible repeat (first | apply Kd.R_alloc | apply Kd.R_drewN | apply Kd.R_drew)); exact HO_117002.out) hb); have n2_ := Aside0.mk (Kd.R_below (by (with_reducible repeat (first | apply Kd.R_alloc | apply Kd.R_drewN | apply Kd.R_drew)); exact HO_126001.out) hb); have n3_ := Aside0.mk (Kd.R_below (by (with_reducible repeat (first | apply Kd.R_alloc | apply Kd.R_drewN | apply Kd.R_drew)); exact HO_126002.out) hb); have n4_ := Aside0.mk (Kd.R_below (by (with_reducible repeat (first | apply Kd.R_alloc | apply Kd.R_drewN | apply Kd.R_drew)); exact HO_135001.out) hb); have n5_ := Aside0.mk (Kd.R_below (by (with_reducible repeat (first | apply Kd.R_alloc | apply Kd.R_drewN | apply Kd.R_drew)); exact HO_135002.out) hb); have n6_ := Aside0.mk (blk_below (g := gb116) (o := .cells #[.int .i64 t108, .slice Ao26 t109.length co26, .slice (some ad138) t112.length co27] 35 (0, 0)) (by (with_reducible repeat (first | refine blk_drewN ?_ _ | refine blk_drew ?_ | refine blk_alloc ?_ _)); exact BK116.out) hb); have n7_ := Aside0.mk (blk_below (g := gb125) (o := .cells #[.int .i64 t117, .slice Ao32 t118.length co32, .slice Ao33 t121.length co33] 35 (0, 0)) (by (with_reducible repeat (first | refine blk_drewN ?_ _ | refine blk_drew ?_ | refine blk_alloc ?_ _)); exact BK125.out) hb); have n8_ := Aside0.mk (blk_below (g := gb134) (o := .cells #[.int .i64 t126, .slice Ao39 t127.length co39, .slice Ao40 t130.length co40] 35 (0, 0)) (by (with_reducible repeat (first | refine blk_drewN ?_ _ | refine blk_drew ?_ | refine blk_alloc ?_ _)); exact BK134.out) hb); have n9_ := Aside0.mk (below_step (by repeat (first | (with_reducible first | exact HB.out | apply below_alloc | apply pw_below_drewN | apply below_drew1 | refine below_set ?_ GE116.out | refine below_set ?_ GE125.out | refine below_set ?_ GE134.out) | exact HB.out)) hb); clear HO_117001; clear HO_117002; clear HO_126001; clear HO_126002; clear HO_135001; clear HO_135002; clear BK116; clear BK125; clear BK134; clear HB; have HO_117001 := n0_; have HO_117002 := n1_; have HO_126001 := n2_; have HO_126002 := n3_; have HO_135001 := n4_; have HO_135002 := n5_; have BK116 := n6_; have BK125 := n7_; have BK134 := n8_; have HB := n9_; clear n0_ n1_ n2_ n3_ n4_ n5_ n6_ n7_ n8_ n9_; (try clear hb); (try clear hb2); (try clear hk); (try clear hi)))
                              go_ret
                              exact ⟨by first | rfl | (simp [errW_none, errW_some] <;> rfl) | (simp only [← hji8, ← hji10]; first | rfl | (simp [errW_none, errW_some] <;> rfl)) | (simp [*, errW_none, errW_some] <;> rfl), by repeat (first | (with_reducible first | exact HB.out | apply below_alloc | apply pw_below_drewN | apply below_drew1 | refine below_set ?_ GE116.out | refine below_set ?_ GE125.out | refine below_set ?_ GE134.out) | exact HB.out)⟩
                          · rw [if_neg c81] at H
                            exact absurd H (by simp)
                        · rw [if_neg c80] at H
                          have c80b0 : decide (x21_3 < (t112.length : Int)) = false := decide_eq_false c80
                          clear c80
                          by_cases c92 : t101 = true
                          · subst c92
                            have H1 : ((digest_Is.f t106).bind fun t140 => (if t140 = true then ((planisphereref01_Same.f t127 t109).bind fun t141 => (if t141 = true then ((seal_Verify.f t106 a3 t108 t109 t112).bind fun t142 => (some t142)) else (some false))) else (some false))) = some r := by rw [if_pos rfl] at H; exact H
                            clear H
                            have H := H1
                            clear H1
                            replace H := Option.bind_eq_some_iff.mp H
                            obtain ⟨t140, A930, H⟩ := H
                            replace H : (if t140 = true then ((planisphereref01_Same.f t127 t109).bind fun t141 => (if t141 = true then ((seal_Verify.f t106 a3 t108 t109 t112).bind fun t142 => (some t142)) else (some false))) else (some false)) = some r := H
                            have A93 := Aside0.mk A930
                            clear A930
                            by_cases c94 : t140 = true
                            · subst c94
                              have H1 : ((planisphereref01_Same.f t127 t109).bind fun t141 => (if t141 = true then ((seal_Verify.f t106 a3 t108 t109 t112).bind fun t142 => (some t142)) else (some false))) = some r := by rw [if_pos rfl] at H; exact H
                              clear H
                              have H := H1
                              clear H1
                              replace H := Option.bind_eq_some_iff.mp H
                              obtain ⟨t141, A950, H⟩ := H
                              replace H : (if t141 = true then ((seal_Verify.f t106 a3 t108 t109 t112).bind fun t142 => (some t142)) else (some false)) = some r := H
                              have A95 := Aside0.mk A950
                              clear A950
                              by_cases c96 : t141 = true
                              · subst c96
                                have H1 : ((seal_Verify.f t106 a3 t108 t109 t112).bind fun t142 => (some t142)) = some r := by rw [if_pos rfl] at H; exact H
                                clear H
                                have H := H1
                                clear H1
                                replace H := Option.bind_eq_some_iff.mp H
                                obtain ⟨t142, A970, H⟩ := H
                                replace H : (some t142) = some r := H
                                have A97 := Aside0.mk A970
                                clear A970
                                obtain rfl := Option.some.inj H
                                have hnb98 := NB116_125.out
                                have hnc98 := NB125_116.out
                                have hnb99 := NB116_134.out
                                have hnc99 := NB134_116.out
                                have hcz100_0 : wr.cell? ⟨gb116, 0, none⟩ = some (.int .i64 t108) := (blk_cell BK116.out 0).trans rfl
                                have hcz100_1 : wr.cell? ⟨gb116, 1, none⟩ = some (.slice Ao26 t109.length co26) := (blk_cell BK116.out 1).trans rfl
                                have hcz100_2 : wr.cell? ⟨gb116, 2, none⟩ = some (.slice Ao27 t112.length co27) := (blk_cell BK116.out 2).trans rfl
                                have hfz100_0 := blk_frozen BK116.out 0
                                have hfz100_1 := blk_frozen BK116.out 1
                                have hfz100_2 := blk_frozen BK116.out 2
                                go_wp2_with (first | (go_at_call 21; (with_reducible refine (digest_Is.calls t106 true _ A93.out).mono ?_); clear A93; rintro e w101 ⟨rfl, hb⟩; have n0_ := Aside0.mk (Kd.R_below (by (with_reducible repeat (first | apply Kd.R_alloc | apply Kd.R_drewN | apply Kd.R_drew)); exact HO_117001.out) hb); have n1_ := Aside0.mk (Kd.R_below (by (with_reducible repeat (first | apply Kd.R_alloc | apply Kd.R_drewN | apply Kd.R_drew)); exact HO_117002.out) hb); have n2_ := Aside0.mk (Kd.R_below (by (with_reducible repeat (first | apply Kd.R_alloc | apply Kd.R_drewN | apply Kd.R_drew)); exact HO_126001.out) hb); have n3_ := Aside0.mk (Kd.R_below (by (with_reducible repeat (first | apply Kd.R_alloc | apply Kd.R_drewN | apply Kd.R_drew)); exact HO_126002.out) hb); have n4_ := Aside0.mk (Kd.R_below (by (with_reducible repeat (first | apply Kd.R_alloc | apply Kd.R_drewN | apply Kd.R_drew)); exact HO_135001.out) hb); have n5_ := Aside0.mk (Kd.R_below (by (with_reducible repeat (first | apply Kd.R_alloc | apply Kd.R_drewN | apply Kd.R_drew)); exact HO_135002.out) hb); have n6_ := Aside0.mk (blk_below (g := gb116) (o := .cells #[.int .i64 t108, .slice Ao26 t109.length co26, .slice Ao27 t112.length co27] 35 (0, 0)) (by (with_reducible repeat (first | refine blk_drewN ?_ _ | refine blk_drew ?_ | refine blk_alloc ?_ _)); exact BK116.out) hb); have n7_ := Aside0.mk (blk_below (g := gb125) (o := .cells #[.int .i64 t117, .slice Ao32 t118.length co32, .slice Ao33 t121.length co33] 35 (0, 0)) (by (with_reducible repeat (first | refine blk_drewN ?_ _ | refine blk_drew ?_ | refine blk_alloc ?_ _)); exact BK125.out) hb); have n8_ := Aside0.mk (blk_below (g := gb134) (o := .cells #[.int .i64 t126, .slice Ao39 t127.length co39, .slice Ao40 t130.length co40] 35 (0, 0)) (by (with_reducible repeat (first | refine blk_drewN ?_ _ | refine blk_drew ?_ | refine blk_alloc ?_ _)); exact BK134.out) hb); have n9_ := Aside0.mk (below_step (by repeat (first | (with_reducible first | exact HB.out | apply below_alloc | apply pw_below_drewN | apply below_drew1 | refine below_set ?_ GE116.out | refine below_set ?_ GE125.out | refine below_set ?_ GE134.out) | exact HB.out)) hb); clear HO_117001; clear HO_117002; clear HO_126001; clear HO_126002; clear HO_135001; clear HO_135002; clear BK116; clear BK125; clear BK134; clear HB; have HO_117001 := n0_; have HO_117002 := n1_; have HO_126001 := n2_; have HO_126002 := n3_; have HO_135001 := n4_; have HO_135002 := n5_; have BK116 := n6_; have BK125 := n7_; have BK134 := n8_; have HB := n9_; clear n0_ n1_ n2_ n3_ n4_ n5_ n6_ n7_ n8_ n9_; (try clear hb); (try clear hb2); (try clear hk); (try clear hi); have hnb102 := NB134_125.out; have hnc102 := NB125_134.out; have hcz103_0 : w101.cell? ⟨gb134, 0, none⟩ = some (.int .i64 t126) := (blk_cell BK134.out 0).trans rfl; have hcz103_1 : w101.cell? ⟨gb134, 1, none⟩ = some (.slice Ao39 t127.length co39) := (blk_cell BK134.out 1).trans rfl; have hcz103_2 : w101.cell? ⟨gb134, 2, none⟩ = some (.slice Ao40 t130.length co40) := (blk_cell BK134.out 2).trans rfl; have hfz103_0 := blk_frozen BK134.out 0; have hfz103_1 := blk_frozen BK134.out 1; have hfz103_2 := blk_frozen BK134.out 2; have hcz104_0 : w101.cell? ⟨gb116, 0, none⟩ = some (.int .i64 t108) := (blk_cell BK116.out 0).trans rfl; have hcz104_1 : w101.cell? ⟨gb116, 1, none⟩ = some (.slice Ao26 t109.length co26) := (blk_cell BK116.out 1).trans rfl; have hcz104_2 : w101.cell? ⟨gb116, 2, none⟩ = some (.slice Ao27 t112.length co27) := (blk_cell BK116.out 2).trans rfl; have hfz104_0 := blk_frozen BK116.out 0; have hfz104_1 := blk_frozen BK116.out 1; have hfz104_2 := blk_frozen BK116.out 2) | (go_at_call 24; (with_reducible refine (planisphereref01_Same.callsB _ _ t127 _ _ t109 true _ ?side1 ?side2 ?side3 ?side4 A95.out).mono ?_); clear A95; (case side1 => repeat (first | exact (Kd.R_reads' HO_135001.out).2.2 | (with_reducible refine Kd.C_alloc ?_ _) | (with_reducible refine Kd.C_drewN ?_ _) | (with_reducible refine Kd.C_drew ?_))); (case side2 => exact (Kd.R_reads' HO_135001.out).2.1); (case side3 => repeat (first | exact (Kd.R_reads' HO_117001.out).2.2 | (with_reducible refine Kd.C_alloc ?_ _) | (with_reducible refine Kd.C_drewN ?_ _) | (with_reducible refine Kd.C_drew ?_))); (case side4 => exact (Kd.R_reads' HO_117001.out).2.1); rintro e w105 ⟨rfl, hb⟩; have n0_ := Aside0.mk (Kd.R_below (by (with_reducible repeat (first | apply Kd.R_alloc | apply Kd.R_drewN | apply Kd.R_drew)); exact HO_117001.out) hb); have n1_ := Aside0.mk (Kd.R_below (by (with_reducible repeat (first | apply Kd.R_alloc | apply Kd.R_drewN | apply Kd.R_drew)); exact HO_117002.out) hb); have n2_ := Aside0.mk (Kd.R_below (by (with_reducible repeat (first | apply Kd.R_alloc | apply Kd.R_drewN | apply Kd.R_drew)); exact HO_126001.out) hb); have n3_ := Aside0.mk (Kd.R_below (by (with_reducible repeat (first | apply Kd.R_alloc | apply Kd.R_drewN | apply Kd.R_drew)); exact HO_126002.out) hb); have n4_ := Aside0.mk (Kd.R_below (by (with_reducible repeat (first | apply Kd.R_alloc | apply Kd.R_drewN | apply Kd.R_drew)); exact HO_135001.out) hb); have n5_ := Aside0.mk (Kd.R_below (by (with_reducible repeat (first | apply Kd.R_alloc | apply Kd.R_drewN | apply Kd.R_drew)); exact HO_135002.out) hb); have n6_ := Aside0.mk (blk_below (g := gb116) (o := .cells #[.int .i64 t108, .slice Ao26 t109.length co26, .slice Ao27 t112.length co27] 35 (0, 0)) (by (with_reducible repeat (first | refine blk_drewN ?_ _ | refine blk_drew ?_ | refine blk_alloc ?_ _)); exact BK116.out) hb); have n7_ := Aside0.mk (blk_below (g := gb125) (o := .cells #[.int .i64 t117, .slice Ao32 t118.length co32, .slice Ao33 t121.length co33] 35 (0, 0)) (by (with_reducible repeat (first | refine blk_drewN ?_ _ | refine blk_drew ?_ | refine blk_alloc ?_ _)); exact BK125.out) hb); have n8_ := Aside0.mk (blk_below (g := gb134) (o := .cells #[.int .i64 t126, .slice Ao39 t127.length co39, .slice Ao40 t130.length co40] 35 (0, 0)) (by (with_reducible repeat (first | refine blk_drewN ?_ _ | refine blk_drew ?_ | refine blk_alloc ?_ _)); exact BK134.out) hb); have n9_ := Aside0.mk (below_step (by repeat (first | (with_reducible first | exact HB.out | apply below_alloc | apply pw_below_drewN | apply below_drew1 | refine below_set ?_ GE116.out | refine below_set ?_ GE125.out | refine below_set ?_ GE134.out) | exact HB.out)) hb); clear HO_117001; clear HO_117002; clear HO_126001; clear HO_126002; clear HO_135001; clear HO_135002; clear BK116; clear BK125; clear BK134; clear HB; have HO_117001 := n0_; have HO_117002 := n1_; have HO_126001 := n2_; have HO_126002 := n3_; have HO_135001 := n4_; have HO_135002 := n5_; have BK116 := n6_; have BK125 := n7_; have BK134 := n8_; have HB := n9_; clear n0_ n1_ n2_ n3_ n4_ n5_ n6_ n7_ n8_ n9_; (try clear hb); (try clear hb2); (try clear hk); (try clear hi); have hcz106_0 : w105.cell? ⟨gb116, 0, none⟩ = some (.int .i64 t108) := (blk_cell BK116.out 0).trans rfl; have hcz106_1 : w105.cell? ⟨gb116, 1, none⟩ = some (.slice Ao26 t109.length co26) := (blk_cell BK116.out 1).trans rfl; have hcz106_2 : w105.cell? ⟨gb116, 2, none⟩ = some (.slice Ao27 t112.length co27) := (blk_cell BK116.out 2).trans rfl; have hfz106_0 := blk_frozen BK116.out 0; have hfz106_1 := blk_frozen BK116.out 1; have hfz106_2 := blk_frozen BK116.out 2) | (go_at_call 33; (with_reducible refine (seal_Verify.calls t106 a3 t108 _ _ t109 _ _ t112 t142 _ ?side1 ?side2 ?side3 ?side4 A97.out (hG := ?hGl)).mono ?_); clear A97; (case hGl => exact (Glob.below HG_.out (by repeat (first | (with_reducible first | exact HB.out | apply below_alloc | apply pw_below_drewN | apply below_drew1 | refine below_set ?_ GE116.out | refine below_set ?_ GE125.out | refine below_set ?_ GE134.out) | exact HB.out)))); (case side1 => repeat (first | exact (Kd.R_reads' HO_117001.out).2.2 | (with_reducible refine Kd.C_alloc ?_ _) | (with_reducible refine Kd.C_drewN ?_ _) | (with_reducible refine Kd.C_drew ?_))); (case side2 => exact (Kd.R_reads' HO_117001.out).2.1); (case side3 => repeat (first | exact (Kd.R_reads' HO_117002.out).2.2 | (with_reducible refine Kd.C_alloc ?_ _) | (with_reducible refine Kd.C_drewN ?_ _) | (with_reducible refine Kd.C_drew ?_))); (case side4 => exact (Kd.R_reads' HO_117002.out).2.1); rintro e w107 ⟨rfl, hb⟩; have n0_ := Aside0.mk (Kd.R_below (by (with_reducible repeat (first | apply Kd.R_alloc | apply Kd.R_drewN | apply Kd.R_drew)); exact HO_117001.out) hb); have n1_ := Aside0.mk (Kd.R_below (by (with_reducible repeat (first | apply Kd.R_alloc | apply Kd.R_drewN | apply Kd.R_drew)); exact HO_117002.out) hb); have n2_ := Aside0.mk (Kd.R_below (by (with_reducible repeat (first | apply Kd.R_alloc | apply Kd.R_drewN | apply Kd.R_drew)); exact HO_126001.out) hb); have n3_ := Aside0.mk (Kd.R_below (by (with_reducible repeat (first | apply Kd.R_alloc | apply Kd.R_drewN | apply Kd.R_drew)); exact HO_126002.out) hb); have n4_ := Aside0.mk (Kd.R_below (by (with_reducible repeat (first | apply Kd.R_alloc | apply Kd.R_drewN | apply Kd.R_drew)); exact HO_135001.out) hb); have n5_ := Aside0.mk (Kd.R_below (by (with_reducible repeat (first | apply Kd.R_alloc | apply Kd.R_drewN | apply Kd.R_drew)); exact HO_135002.out) hb); have n6_ := Aside0.mk (blk_below (g := gb116) (o := .cells #[.int .i64 t108, .slice Ao26 t109.length co26, .slice Ao27 t112.length co27] 35 (0, 0)) (by (with_reducible repeat (first | refine blk_drewN ?_ _ | refine blk_drew ?_ | refine blk_alloc ?_ _)); exact BK116.out) hb); have n7_ := Aside0.mk (blk_below (g := gb125) (o := .cells #[.int .i64 t117, .slice Ao32 t118.length co32, .slice Ao33 t121.length co33] 35 (0, 0)) (by (with_reducible repeat (first | refine blk_drewN ?_ _ | refine blk_drew ?_ | refine blk_alloc ?_ _)); exact BK125.out) hb); have n8_ := Aside0.mk (blk_below (g := gb134) (o := .cells #[.int .i64 t126, .slice Ao39 t127.length co39, .slice Ao40 t130.length co40] 35 (0, 0)) (by (with_reducible repeat (first | refine blk_drewN ?_ _ | refine blk_drew ?_ | refine blk_alloc ?_ _)); exact BK134.out) hb); have n9_ := Aside0.mk (below_step (by repeat (first | (with_reducible first | exact HB.out | apply below_alloc | apply pw_below_drewN | apply below_drew1 | refine below_set ?_ GE116.out | refine below_set ?_ GE125.out | refine below_set ?_ GE134.out) | exact HB.out)) hb); clear HO_117001; clear HO_117002; clear HO_126001; clear HO_126002; clear HO_135001; clear HO_135002; clear BK116; clear BK125; clear BK134; clear HB; have HO_117001 := n0_; have HO_117002 := n1_; have HO_126001 := n2_; have HO_126002 := n3_; have HO_135001 := n4_; have HO_135002 := n5_; have BK116 := n6_; have BK125 := n7_; have BK134 := n8_; have HB := n9_; clear n0_ n1_ n2_ n3_ n4_ n5_ n6_ n7_ n8_ n9_; (try clear hb); (try clear hb2); (try clear hk); (try clear hi)))
                                go_ret
                                exact ⟨by first | rfl | (simp [errW_none, errW_some] <;> rfl) | (simp only [← hji8, ← hji10]; first | rfl | (simp [errW_none, errW_some] <;> rfl)) | (simp [*, errW_none, errW_some] <;> rfl), by repeat (first | (with_reducible first | exact HB.out | apply below_alloc | apply pw_below_drewN | apply below_drew1 | refine below_set ?_ GE116.out | refine below_set ?_ GE125.out | refine below_set ?_ GE134.out) | exact HB.out)⟩
                              · replace c96 := Bool.eq_false_iff.mpr c96
                                subst c96
                                have H1 : (some false) = some r := by rw [if_neg (show ¬ (false = true) by decide)] at H; exact H
                                clear H
                                have H := H1
                                clear H1
                                obtain rfl := Option.some.inj H
                                have hnb108 := NB116_125.out
                                have hnc108 := NB125_116.out
                                have hnb109 := NB116_134.out
                                have hnc109 := NB134_116.out
                                have hcz110_0 : wr.cell? ⟨gb116, 0, none⟩ = some (.int .i64 t108) := (blk_cell BK116.out 0).trans rfl
                                have hcz110_1 : wr.cell? ⟨gb116, 1, none⟩ = some (.slice Ao26 t109.length co26) := (blk_cell BK116.out 1).trans rfl
                                have hcz110_2 : wr.cell? ⟨gb116, 2, none⟩ = some (.slice Ao27 t112.length co27) := (blk_cell BK116.out 2).trans rfl
                                have hfz110_0 := blk_frozen BK116.out 0
                                have hfz110_1 := blk_frozen BK116.out 1
                                have hfz110_2 := blk_frozen BK116.out 2
                                go_wp2_with (first | (go_at_call 21; (with_reducible refine (digest_Is.calls t106 true _ A93.out).mono ?_); clear A93; rintro e w111 ⟨rfl, hb⟩; have n0_ := Aside0.mk (Kd.R_below (by (with_reducible repeat (first | apply Kd.R_alloc | apply Kd.R_drewN | apply Kd.R_drew)); exact HO_117001.out) hb); have n1_ := Aside0.mk (Kd.R_below (by (with_reducible repeat (first | apply Kd.R_alloc | apply Kd.R_drewN | apply Kd.R_drew)); exact HO_117002.out) hb); have n2_ := Aside0.mk (Kd.R_below (by (with_reducible repeat (first | apply Kd.R_alloc | apply Kd.R_drewN | apply Kd.R_drew)); exact HO_126001.out) hb); have n3_ := Aside0.mk (Kd.R_below (by (with_reducible repeat (first | apply Kd.R_alloc | apply Kd.R_drewN | apply Kd.R_drew)); exact HO_126002.out) hb); have n4_ := Aside0.mk (Kd.R_below (by (with_reducible repeat (first | apply Kd.R_alloc | apply Kd.R_drewN | apply Kd.R_drew)); exact HO_135001.out) hb); have n5_ := Aside0.mk (Kd.R_below (by (with_reducible repeat (first | apply Kd.R_alloc | apply Kd.R_drewN | apply Kd.R_drew)); exact HO_135002.out) hb); have n6_ := Aside0.mk (blk_below (g := gb116) (o := .cells #[.int .i64 t108, .slice Ao26 t109.length co26, .slice Ao27 t112.length co27] 35 (0, 0)) (by (with_reducible repeat (first | refine blk_drewN ?_ _ | refine blk_drew ?_ | refine blk_alloc ?_ _)); exact BK116.out) hb); have n7_ := Aside0.mk (blk_below (g := gb125) (o := .cells #[.int .i64 t117, .slice Ao32 t118.length co32, .slice Ao33 t121.length co33] 35 (0, 0)) (by (with_reducible repeat (first | refine blk_drewN ?_ _ | refine blk_drew ?_ | refine blk_alloc ?_ _)); exact BK125.out) hb); have n8_ := Aside0.mk (blk_below (g := gb134) (o := .cells #[.int .i64 t126, .slice Ao39 t127.length co39, .slice Ao40 t130.length co40] 35 (0, 0)) (by (with_reducible repeat (first | refine blk_drewN ?_ _ | refine blk_drew ?_ | refine blk_alloc ?_ _)); exact BK134.out) hb); have n9_ := Aside0.mk (below_step (by repeat (first | (with_reducible first | exact HB.out | apply below_alloc | apply pw_below_drewN | apply below_drew1 | refine below_set ?_ GE116.out | refine below_set ?_ GE125.out | refine below_set ?_ GE134.out) | exact HB.out)) hb); clear HO_117001; clear HO_117002; clear HO_126001; clear HO_126002; clear HO_135001; clear HO_135002; clear BK116; clear BK125; clear BK134; clear HB; have HO_117001 := n0_; have HO_117002 := n1_; have HO_126001 := n2_; have HO_126002 := n3_; have HO_135001 := n4_; have HO_135002 := n5_; have BK116 := n6_; have BK125 := n7_; have BK134 := n8_; have HB := n9_; clear n0_ n1_ n2_ n3_ n4_ n5_ n6_ n7_ n8_ n9_; (try clear hb); (try clear hb2); (try clear hk); (try clear hi); have hnb112 := NB134_125.out; have hnc112 := NB125_134.out; have hcz113_0 : w111.cell? ⟨gb134, 0, none⟩ = some (.int .i64 t126) := (blk_cell BK134.out 0).trans rfl; have hcz113_1 : w111.cell? ⟨gb134, 1, none⟩ = some (.slice Ao39 t127.length co39) := (blk_cell BK134.out 1).trans rfl; have hcz113_2 : w111.cell? ⟨gb134, 2, none⟩ = some (.slice Ao40 t130.length co40) := (blk_cell BK134.out 2).trans rfl; have hfz113_0 := blk_frozen BK134.out 0; have hfz113_1 := blk_frozen BK134.out 1; have hfz113_2 := blk_frozen BK134.out 2; have hcz114_0 : w111.cell? ⟨gb116, 0, none⟩ = some (.int .i64 t108) := (blk_cell BK116.out 0).trans rfl; have hcz114_1 : w111.cell? ⟨gb116, 1, none⟩ = some (.slice Ao26 t109.length co26) := (blk_cell BK116.out 1).trans rfl; have hcz114_2 : w111.cell? ⟨gb116, 2, none⟩ = some (.slice Ao27 t112.length co27) := (blk_cell BK116.out 2).trans rfl; have hfz114_0 := blk_frozen BK116.out 0; have hfz114_1 := blk_frozen BK116.out 1; have hfz114_2 := blk_frozen BK116.out 2) | (go_at_call 24; (with_reducible refine (planisphereref01_Same.callsB _ _ t127 _ _ t109 false _ ?side1 ?side2 ?side3 ?side4 A95.out).mono ?_); clear A95; (case side1 => repeat (first | exact (Kd.R_reads' HO_135001.out).2.2 | (with_reducible refine Kd.C_alloc ?_ _) | (with_reducible refine Kd.C_drewN ?_ _) | (with_reducible refine Kd.C_drew ?_))); (case side2 => exact (Kd.R_reads' HO_135001.out).2.1); (case side3 => repeat (first | exact (Kd.R_reads' HO_117001.out).2.2 | (with_reducible refine Kd.C_alloc ?_ _) | (with_reducible refine Kd.C_drewN ?_ _) | (with_reducible refine Kd.C_drew ?_))); (case side4 => exact (Kd.R_reads' HO_117001.out).2.1); rintro e w115 ⟨rfl, hb⟩; have n0_ := Aside0.mk (Kd.R_below (by (with_reducible repeat (first | apply Kd.R_alloc | apply Kd.R_drewN | apply Kd.R_drew)); exact HO_117001.out) hb); have n1_ := Aside0.mk (Kd.R_below (by (with_reducible repeat (first | apply Kd.R_alloc | apply Kd.R_drewN | apply Kd.R_drew)); exact HO_117002.out) hb); have n2_ := Aside0.mk (Kd.R_below (by (with_reducible repeat (first | apply Kd.R_alloc | apply Kd.R_drewN | apply Kd.R_drew)); exact HO_126001.out) hb); have n3_ := Aside0.mk (Kd.R_below (by (with_reducible repeat (first | apply Kd.R_alloc | apply Kd.R_drewN | apply Kd.R_drew)); exact HO_126002.out) hb); have n4_ := Aside0.mk (Kd.R_below (by (with_reducible repeat (first | apply Kd.R_alloc | apply Kd.R_drewN | apply Kd.R_drew)); exact HO_135001.out) hb); have n5_ := Aside0.mk (Kd.R_below (by (with_reducible repeat (first | apply Kd.R_alloc | apply Kd.R_drewN | apply Kd.R_drew)); exact HO_135002.out) hb); have n6_ := Aside0.mk (blk_below (g := gb116) (o := .cells #[.int .i64 t108, .slice Ao26 t109.length co26, .slice Ao27 t112.length co27] 35 (0, 0)) (by (with_reducible repeat (first | refine blk_drewN ?_ _ | refine blk_drew ?_ | refine blk_alloc ?_ _)); exact BK116.out) hb); have n7_ := Aside0.mk (blk_below (g := gb125) (o := .cells #[.int .i64 t117, .slice Ao32 t118.length co32, .slice Ao33 t121.length co33] 35 (0, 0)) (by (with_reducible repeat (first | refine blk_drewN ?_ _ | refine blk_drew ?_ | refine blk_alloc ?_ _)); exact BK125.out) hb); have n8_ := Aside0.mk (blk_below (g := gb134) (o := .cells #[.int .i64 t126, .slice Ao39 t127.length co39, .slice Ao40 t130.length co40] 35 (0, 0)) (by (with_reducible repeat (first | refine blk_drewN ?_ _ | refine blk_drew ?_ | refine blk_alloc ?_ _)); exact BK134.out) hb); have n9_ := Aside0.mk (below_step (by repeat (first | (with_reducible first | exact HB.out | apply below_alloc | apply pw_below_drewN | apply below_drew1 | refine below_set ?_ GE116.out | refine below_set ?_ GE125.out | refine below_set ?_ GE134.out) | exact HB.out)) hb); clear HO_117001; clear HO_117002; clear HO_126001; clear HO_126002; clear HO_135001; clear HO_135002; clear BK116; clear BK125; clear BK134; clear HB; have HO_117001 := n0_; have HO_117002 := n1_; have HO_126001 := n2_; have HO_126002 := n3_; have HO_135001 := n4_; have HO_135002 := n5_; have BK116 := n6_; have BK125 := n7_; have BK134 := n8_; have HB := n9_; clear n0_ n1_ n2_ n3_ n4_ n5_ n6_ n7_ n8_ n9_; (try clear hb); (try clear hb2); (try clear hk); (try clear hi)))
                                go_ret
                                exact ⟨by first | rfl | (simp [errW_none, errW_some] <;> rfl) | (simp only [← hji8, ← hji10]; first | rfl | (simp [errW_none, errW_some] <;> rfl)) | (simp [*, errW_none, errW_some] <;> rfl), by repeat (first | (with_reducible first | exact HB.out | apply below_alloc | apply pw_below_drewN | apply below_drew1 | refine below_set ?_ GE116.out | refine below_set ?_ GE125.out | refine below_set ?_ GE134.out) | exact HB.out)⟩
                            · replace c94 := Bool.eq_false_iff.mpr c94
                              subst c94
                              have H1 : (some false) = some r := by rw [if_neg (show ¬ (false = true) by decide)] at H; exact H
                              clear H
                              have H := H1
                              clear H1
                              obtain rfl := Option.some.inj H
                              have hnb116 := NB116_125.out
                              have hnc116 := NB125_116.out
                              have hnb117 := NB116_134.out
                              have hnc117 := NB134_116.out
                              have hcz118_0 : wr.cell? ⟨gb116, 0, none⟩ = some (.int .i64 t108) := (blk_cell BK116.out 0).trans rfl
                              have hcz118_1 : wr.cell? ⟨gb116, 1, none⟩ = some (.slice Ao26 t109.length co26) := (blk_cell BK116.out 1).trans rfl
                              have hcz118_2 : wr.cell? ⟨gb116, 2, none⟩ = some (.slice Ao27 t112.length co27) := (blk_cell BK116.out 2).trans rfl
                              have hfz118_0 := blk_frozen BK116.out 0
                              have hfz118_1 := blk_frozen BK116.out 1
                              have hfz118_2 := blk_frozen BK116.out 2
                              go_wp2_with (first | (go_at_call 21; (with_reducible refine (digest_Is.calls t106 false _ A93.out).mono ?_); clear A93; rintro e w119 ⟨rfl, hb⟩; have n0_ := Aside0.mk (Kd.R_below (by (with_reducible repeat (first | apply Kd.R_alloc | apply Kd.R_drewN | apply Kd.R_drew)); exact HO_117001.out) hb); have n1_ := Aside0.mk (Kd.R_below (by (with_reducible repeat (first | apply Kd.R_alloc | apply Kd.R_drewN | apply Kd.R_drew)); exact HO_117002.out) hb); have n2_ := Aside0.mk (Kd.R_below (by (with_reducible repeat (first | apply Kd.R_alloc | apply Kd.R_drewN | apply Kd.R_drew)); exact HO_126001.out) hb); have n3_ := Aside0.mk (Kd.R_below (by (with_reducible repeat (first | apply Kd.R_alloc | apply Kd.R_drewN | apply Kd.R_drew)); exact HO_126002.out) hb); have n4_ := Aside0.mk (Kd.R_below (by (with_reducible repeat (first | apply Kd.R_alloc | apply Kd.R_drewN | apply Kd.R_drew)); exact HO_135001.out) hb); have n5_ := Aside0.mk (Kd.R_below (by (with_reducible repeat (first | apply Kd.R_alloc | apply Kd.R_drewN | apply Kd.R_drew)); exact HO_135002.out) hb); have n6_ := Aside0.mk (blk_below (g := gb116) (o := .cells #[.int .i64 t108, .slice Ao26 t109.length co26, .slice Ao27 t112.length co27] 35 (0, 0)) (by (with_reducible repeat (first | refine blk_drewN ?_ _ | refine blk_drew ?_ | refine blk_alloc ?_ _)); exact BK116.out) hb); have n7_ := Aside0.mk (blk_below (g := gb125) (o := .cells #[.int .i64 t117, .slice Ao32 t118.length co32, .slice Ao33 t121.length co33] 35 (0, 0)) (by (with_reducible repeat (first | refine blk_drewN ?_ _ | refine blk_drew ?_ | refine blk_alloc ?_ _)); exact BK125.out) hb); have n8_ := Aside0.mk (blk_below (g := gb134) (o := .cells #[.int .i64 t126, .slice Ao39 t127.length co39, .slice Ao40 t130.length co40] 35 (0, 0)) (by (with_reducible repeat (first | refine blk_drewN ?_ _ | refine blk_drew ?_ | refine blk_alloc ?_ _)); exact BK134.out) hb); have n9_ := Aside0.mk (below_step (by repeat (first | (with_reducible first | exact HB.out | apply below_alloc | apply pw_below_drewN | apply below_drew1 | refine below_set ?_ GE116.out | refine below_set ?_ GE125.out | refine below_set ?_ GE134.out) | exact HB.out)) hb); clear HO_117001; clear HO_117002; clear HO_126001; clear HO_126002; clear HO_135001; clear HO_135002; clear BK116; clear BK125; clear BK134; clear HB; have HO_117001 := n0_; have HO_117002 := n1_; have HO_126001 := n2_; have HO_126002 := n3_; have HO_135001 := n4_; have HO_135002 := n5_; have BK116 := n6_; have BK125 := n7_; have BK134 := n8_; have HB := n9_; clear n0_ n1_ n2_ n3_ n4_ n5_ n6_ n7_ n8_ n9_; (try clear hb); (try clear hb2); (try clear hk); (try clear hi)))
                              go_ret
                              exact ⟨by first | rfl | (simp [errW_none, errW_some] <;> rfl) | (simp only [← hji8, ← hji10]; first | rfl | (simp [errW_none, errW_some] <;> rfl)) | (simp [*, errW_none, errW_some] <;> rfl), by repeat (first | (with_reducible first | exact HB.out | apply below_alloc | apply pw_below_drewN | apply below_drew1 | refine below_set ?_ GE116.out | refine below_set ?_ GE125.out | refine below_set ?_ GE134.out) | exact HB.out)⟩
                          · replace c92 := Bool.eq_false_iff.mpr c92
                            subst c92
                            have H1 : (some false) = some r := by rw [if_neg (show ¬ (false = true) by decide)] at H; exact H
                            clear H
                            have H := H1
                            clear H1
                            obtain rfl := Option.some.inj H
                            have hnb120 := NB116_125.out
                            have hnc120 := NB125_116.out
                            have hnb121 := NB116_134.out
                            have hnc121 := NB134_116.out
                            have hcz122_0 : wr.cell? ⟨gb116, 0, none⟩ = some (.int .i64 t108) := (blk_cell BK116.out 0).trans rfl
                            have hcz122_1 : wr.cell? ⟨gb116, 1, none⟩ = some (.slice Ao26 t109.length co26) := (blk_cell BK116.out 1).trans rfl
                            have hcz122_2 : wr.cell? ⟨gb116, 2, none⟩ = some (.slice Ao27 t112.length co27) := (blk_cell BK116.out 2).trans rfl
                            have hfz122_0 := blk_frozen BK116.out 0
                            have hfz122_1 := blk_frozen BK116.out 1
                            have hfz122_2 := blk_frozen BK116.out 2
                            go_wp2
                            go_ret
                            exact ⟨by first | rfl | (simp [errW_none, errW_some] <;> rfl) | (simp only [← hji8, ← hji10]; first | rfl | (simp [errW_none, errW_some] <;> rfl)) | (simp [*, errW_none, errW_some] <;> rfl), by repeat (first | (with_reducible first | exact HB.out | apply below_alloc | apply pw_below_drewN | apply below_drew1 | refine below_set ?_ GE116.out | refine below_set ?_ GE125.out | refine below_set ?_ GE134.out) | exact HB.out)⟩
    · rw [if_neg c9] at H
      exact absurd H (by simp)
  · replace c7 := Bool.eq_false_iff.mpr c7
    subst c7
    have H1 : (some t101) = some r := by rw [if_neg (show ¬ (false = true) by decide)] at H; exact H
    clear H
    have H := H1
    clear H1
    obtain rfl := Option.some.inj H
    go_enter Tryd.func9, Tryd.ntmps9
    go_wp2_with (first | ((with_reducible refine gate_callee (f := 25) rfl ?_); refine goesL_ (some 22) rfl rfl Tryd.func25 (by kernel_rfl) rfl #[] rfl (by (try simp only [List.map_toArray, List.map_cons, List.map_nil]); first | done | rfl | (simp only [List.length_drop, List.length_take]; rfl)) ?_; (with_reducible refine (planispherelaw02_head.calls  t101 _ A5.out (hG := ?hGl)).mono ?_); clear A5; (case hGl => exact (Glob.below HG_.out (by repeat (first | (with_reducible first | exact HB.out | apply below_alloc | apply pw_below_drewN | apply below_drew1 | refine below_set ?_ GE116.out | refine below_set ?_ GE125.out | refine below_set ?_ GE134.out) | exact HB.out)))); rintro e w123 ⟨rfl, hb⟩; refine ⟨_, rfl, ?_⟩; have n0_ := Aside0.mk (below_step (by repeat (first | (with_reducible first | exact HB.out | apply below_alloc | apply pw_below_drewN | apply below_drew1) | exact HB.out)) hb); clear HB; have HB := n0_; clear n0_; (try clear hb); (try clear hb2); (try clear hk); (try clear hi)) | ((with_reducible refine gate_dst (N := 25) rfl ?_); (try (refine gate_guard (by rfl) ?_; dsimp only)); refine Kd.R_lit Kd.string _ 9 ?hg (N := 25) ?hd (xs := ([a0, a3] : List ByteArray)) (inner := [.string a0, .string a3]) (ok := fun _ => True) (okp := fun _ => True) ?hr ?hp (fun _ hk => hk) trivial (Below.refl _ _) (Nat.le_refl _) (by simp) ?_; (case hd => rfl); (case hg => rfl); (case hr => first | (go_simp; done) | (go_simp; rfl)); (case hp => exact (Reps.one (show Kd.M Kd.string _ _ _ a0 [.string a0] from rfl) (Reps.one (show Kd.M Kd.string _ _ _ a3 [.string a3] from rfl) (Reps.none _ _)))); intro v103 w124 ho125 hb hg_ hnew_; clear hg_ hnew_; (first | rw [← Ny102.out] at ho125 | (simp only [Int.reduceToNat] at ho125; rw [← Ny102.out] at ho125)); have n0_ := Aside0.mk (Kd.R_lower ho125 (below_size (by repeat (first | (with_reducible first | exact HB.out | apply below_alloc | apply pw_below_drewN | apply below_drew1) | exact HB.out)))); have n1_ := Aside0.mk (below_step (by repeat (first | (with_reducible first | exact HB.out | apply below_alloc | apply pw_below_drewN | apply below_drew1) | exact HB.out)) hb); clear HB; have HO104 := n0_; have HB := n1_; clear n0_ n1_; clear hb ho125; obtain ⟨Ao126, co126, eo126⟩ := Kd.R_slice HO104.out; subst eo126) | ((with_reducible refine gate_callee (f := 26) rfl ?_); refine goesL_ (some 26) rfl rfl Tryd.func26 (by kernel_rfl) rfl #[.slice Ao126 y102.length co126] rfl (by (try simp only [List.map_toArray, List.map_cons, List.map_nil]); first | done | rfl | (simp only [List.length_drop, List.length_take]; rfl)) ?_; (with_reducible refine (planispherelaw02_short.callsB _ _ y102 false _ ?side1 ?side2 A6.out).mono ?_); clear A6; (case side1 => repeat (first | exact (Kd.R_reads' HO104.out).2.2 | (with_reducible refine Kd.C_alloc ?_ _) | (with_reducible refine Kd.C_drewN ?_ _) | (with_reducible refine Kd.C_drew ?_))); (case side2 => exact (Kd.R_reads' HO104.out).2.1); rintro e w127 ⟨rfl, hb⟩; refine ⟨_, rfl, ?_⟩; have n0_ := Aside0.mk (Kd.R_below (by (with_reducible repeat (first | apply Kd.R_alloc | apply Kd.R_drewN | apply Kd.R_drew)); exact HO104.out) hb); have n1_ := Aside0.mk (below_step (by repeat (first | (with_reducible first | exact HB.out | apply below_alloc | apply pw_below_drewN | apply below_drew1) | exact HB.out)) hb); clear HO104; clear HB; have HO104 := n0_; have HB := n1_; clear n0_ n1_; (try clear hb); (try clear hb2); (try clear hk); (try clear hi)))
    go_ret
    exact ⟨by first | rfl | (simp [errW_none, errW_some] <;> rfl) | (simp [*, errW_none, errW_some] <;> rfl), by repeat (first | (with_reducible first | exact HB.out | apply below_alloc | apply pw_below_drewN | apply below_drew1) | exact HB.out)⟩
end Go.Proofs.YteleheamnighkaaDoor.PSVerifies
end
section
set_option linter.unusedVariables false
set_option linter.unusedSimpArgs false
namespace Go.Proofs.YteleheamnighkaaDoor
open Go.RowKit Go.DoorKit Go.Proofs.YteleheamnighkaaDoorW.PrintWords
namespace Pure
theorem short2 (a b : ByteArray) : planispherelaw02_short.f [a, b] = some (BaseFacts.shortT [a, b]) := if_pos (show (2 : Nat) ≤ 9223372036854775807 by decide)
theorem shortT_out {l : List ByteArray} (h : BaseFacts.shortT l = true) : ∀ x ∈ l, x.size ≤ 300 := by
  intro x hx
  unfold BaseFacts.shortT at h
  exact of_decide_eq_true (List.all_eq_true.1 h x hx)
theorem u8_out {a : Int} (w : (Lit.int .u8 a).wf = true) : 0 ≤ a ∧ a ≤ 255 := by simpa [Lit.wf, IntKind.min, IntKind.max, IntKind.signed, IntKind.bits] using w
theorem pub_f (a0 : ByteArray) (n : Nat) (hs : a0.size ≤ 300) (hn : n ≤ 8) : seal_Public.f a0 n = some (ofT (Dig.tree (tx a0) n 0), 0) := by
  have h1 : seal_Public.f a0 n = some (publicR (tx a0) n) := if_pos (Nat.le_trans hs (by decide))
  rw [h1]
  unfold publicR
  rw [if_neg (by omega), Int.toNat_natCast]
theorem sign_f (a0 a3 : ByteArray) (a1 a2 : Int) (hs : a0.size ≤ 300) (hm : a3.size ≤ 300) : seal_Sign.f a0 a1 a2 a3 = some (signR (tx a0) a1 a2 (tx a3)) :=
  if_pos ⟨Nat.le_trans hs (by decide), Nat.le_trans hm (by decide)⟩
theorem sign_ok (a0 a3 : ByteArray) (n i : Nat) (hs : a0.size ≤ 300) (hm : a3.size ≤ 300) (hn : n ≤ 8) (hi : i < 2 ^ n) : seal_Sign.f a0 n i a3 = some ((i : Int), sigL (tx a0) i (tx a3), pathL (tx a0) i n, 0) := by
  rw [sign_f a0 a3 n i hs hm]
  unfold signR
  have hpow : (2 : Int) ^ n = ((2 ^ n : Nat) : Int) := by simp
  rw [if_neg, Int.toNat_natCast, Int.toNat_natCast]
  unfold signBad
  rw [Int.toNat_natCast, hpow]
  generalize 2 ^ n = P at *
  omega
theorem ver_f (a0 a1 : ByteArray) (i : Int) (l1 l2 : List ByteArray) (h : verIn a1 l1 l2) : seal_Verify.f a0 a1 i l1 l2 = some (verR a0 a1 i l1 l2) := if_pos h
theorem same_f (i : Int) (l1 l2 : List ByteArray) (i' : Int) (m1 m2 : List ByteArray) (h1 : l1.length ≤ 1000) (h2 : l2.length ≤ 1000) : planisphereref02_Same.f i l1 l2 i' m1 m2 = some (sameS i l1 l2 i' m1 m2) :=
  if_pos ⟨Nat.le_trans h1 (by decide), Nat.le_trans h2 (by decide)⟩
theorem tmod_pow (a : Int) (h : 0 ≤ a ∧ a ≤ 255) (n : Nat) (hn : n ≤ 3) : ∃ i : Nat, i < 2 ^ n ∧ Int.tmod (wrap64 a) (shl .i64 1 (n : Int)) = (i : Int) := by
  obtain ⟨m, rfl⟩ := Int.eq_ofNat_of_zero_le h.1
  refine ⟨m % 2 ^ n, Nat.mod_lt _ (Nat.two_pow_pos n), ?_⟩
  have : wrap64 (m : Int) = (m : Int) := by unfold wrap64; omega
  rw [this, shl_one n (by omega), BaseFacts.tmod_nat]
theorem shl_ne (n : Nat) (hn : n ≤ 3) : ¬ shl .i64 1 (n : Int) = 0 := by
  rw [shl_one n (by omega)]
  have := Nat.two_pow_pos n
  generalize 2 ^ n = P at *
  omega
end Pure
end Go.Proofs.YteleheamnighkaaDoor
end
section
set_option linter.unusedVariables false
set_option linter.unusedSimpArgs false
namespace Go.Proofs.YteleheamnighkaaDoor
open Go.RowKit Go.DoorKit Go.Proofs.YteleheamnighkaaDoorW.PrintWords
namespace Pure
theorem tmod4 (a : Int) (h : 0 ≤ a ∧ a ≤ 255) : ∃ n : Nat, n ≤ 3 ∧ Int.tmod (wrap64 a) 4 = (n : Int) := by
  obtain ⟨m, rfl⟩ := Int.eq_ofNat_of_zero_le h.1
  refine ⟨m % 4, by omega, ?_⟩
  have : wrap64 (m : Int) = (m : Int) := by unfold wrap64; omega
  rw [this, show (4 : Int) = ((4 : Nat) : Int) from rfl, BaseFacts.tmod_nat]
theorem dIs (s : ByteArray) (h : s.size ≤ 140737488355328) : digest_Is.f s = some (Dig.isD (tx s)) := if_pos h
theorem odd_get {l : List ByteArray} (h : oddB l = false) {i : Nat} (hi : i < l.length) : Dig.isD (tx (l.getD i ByteArray.empty)) = true := oddB_false h _ (getD_mem hi)
theorem ever_l1 (a3 : ByteArray) (r : ByteArray) (i : Int) (l1 l2 : List ByteArray) (i' : Int) (m1 m2 : List ByteArray) (h2 : oddB l2 = false) (n2 : l2.length ≤ 8) (hr : Dig.isD (tx r) = true) (hs : m1 = l1) (n1 : m1.length ≤ 1000) (hvi : verIn a3 l1 l2)
    (hv : verR r a3 i l1 l2 = true) : ∀ (d j : Nat), j + d = l2.length → Ev (fun k => PSVerifies.planispherelaw02_SealVerifies.l1 k a3 true r j i l1 l2 i' m1 m2) true
  | 0, j, hj => by
    obtain rfl : j = l2.length := by omega
    have hz := Go.Proofs.YteleheamnighkaaDoor.isD_len hr
    rw [tx_len] at hz
    refine Ev.step (fun k => ?_) (Ev.now _)
    rw [PSVerifies.planispherelaw02_SealVerifies.l1, if_neg (by omega), if_pos rfl, dIs r (by omega), Option.bind_some, if_pos hr, rSame m1 l1 (by omega), Option.bind_some, if_pos (decide_eq_true hs), ver_f _ _ _ _ _ hvi, Option.bind_some, hv]
  | d + 1, j, hj => by
    have hlt : j < l2.length := by omega
    have hz := oddB_size h2 _ (getD_mem hlt)
    refine Ev.step (fun k => ?_) (ever_l1 a3 r i l1 l2 i' m1 m2 h2 n2 hr hs n1 hvi hv d (j + 1) (by omega))
    rw [PSVerifies.planispherelaw02_SealVerifies.l1, if_pos (by omega), if_pos (by omega)]
    unfold rdOf
    rw [Int.toNat_natCast, dIs _ (by omega), Option.bind_some, if_pos (odd_get h2 hlt), wrap_succ j (by omega)]
theorem ever_l0 (a3 : ByteArray) (r : ByteArray) (i : Int) (l1 l2 : List ByteArray) (i' : Int) (m1 m2 : List ByteArray) (h1 : oddB l1 = false) (h18 : l1.length = 18) (h2 : oddB l2 = false) (n2 : l2.length ≤ 8) (hr : Dig.isD (tx r) = true) (hs : m1 = l1) (n1 : m1.length ≤ 1000) (hvi : verIn a3 l1 l2)
    (hv : verR r a3 i l1 l2 = true) : ∀ (d j : Nat), j + d = 18 → Ev (fun k => PSVerifies.planispherelaw02_SealVerifies.l0 k a3 true r j i l1 l2 i' m1 m2) true
  | 0, j, hj => by
    refine Ev.step (fun k => ?_) (ever_l1 a3 r i l1 l2 i' m1 m2 h2 n2 hr hs n1 hvi hv l2.length 0 (by omega))
    rw [PSVerifies.planispherelaw02_SealVerifies.l0, if_neg (by omega)]; rfl
  | d + 1, j, hj => by
    have hlt : j < l1.length := by omega
    have hz := oddB_size h1 _ (getD_mem hlt)
    refine Ev.step (fun k => ?_) (ever_l0 a3 r i l1 l2 i' m1 m2 h1 h18 h2 n2 hr hs n1 hvi hv d (j + 1) (by omega))
    rw [PSVerifies.planispherelaw02_SealVerifies.l0, if_pos (by omega), if_pos (by omega)]
    unfold rdOf
    rw [Int.toNat_natCast, dIs _ (by omega), Option.bind_some, if_pos (odd_get h1 hlt), wrap_succ j (by omega)]
theorem verifies_pure (a0 : ByteArray) (h0 : a0.size ≤ 140737488351232) (a1 : Int) (w1 : (Lit.int .u8 a1).wf = true) (a2 : Int) (w2 : (Lit.int .u8 a2).wf = true) (a3 : ByteArray) (h3 : a3.size ≤ 140737488351232) :
    ∃ k, PSVerifies.planispherelaw02_SealVerifies.f k a0 a1 a2 a3 = some true := by
  obtain ⟨n, hn, en⟩ := tmod4 a1 (u8_out w1)
  obtain ⟨i, hi, ei⟩ := tmod_pow a2 (u8_out w2) n hn
  have hw : wrap64 ((n : Int) + 1) = ((n + 1 : Nat) : Int) := wrap_succ n (by omega)
  by_cases hsh : BaseFacts.shortT [a0, a3] = true
  · have hs0 := shortT_out hsh a0 (by simp)
    have hs3 := shortT_out hsh a3 (by simp)
    have hi2 : i < 2 ^ (n + 1) := Nat.lt_of_lt_of_le hi (Nat.pow_le_pow_right (by decide) (by omega))
    have hvi : verIn a3 (sigL (tx a0) i (tx a3)) (pathL (tx a0) i n) := verIn_small hs3 (fun x hx => by rw [sigL_big _ _ _ x hx]; decide) (fun x hx => by rw [pathL_big _ _ _ x hx]; decide) (by rw [sigL_len]; decide) (by rw [pathL_len]; omega)
    have hv := ver_sig (tx a0) n i a3 (by omega) hi (ofT (Dig.tree (tx a0) n 0))
    rw [decide_eq_true rfl] at hv
    have hl := ever_l0 a3 (ofT (Dig.tree (tx a0) n 0)) i (sigL (tx a0) i (tx a3)) (pathL (tx a0) i n) i (sigL (tx a0) i (tx a3)) (pathL (tx a0) i (n + 1)) (sig_odd _ _ _) (sigL_len _ _ _) (path_odd _ _ _) (by rw [pathL_len]; omega)
      (by rw [tx_ofT]; exact isD_tree _ _ _) rfl (by rw [sigL_len]; decide) hvi hv 18 0 rfl
    obtain ⟨k, hk⟩ := Ev.rounds (Ev.step (g := fun k => PSVerifies.planispherelaw02_SealVerifies.j0 k a3 true (ofT (Dig.tree (tx a0) n 0)) false i (sigL (tx a0) i (tx a3)) (pathL (tx a0) i n) i (sigL (tx a0) i (tx a3)) (pathL (tx a0) i (n + 1)))
      (fun k => by rw [PSVerifies.planispherelaw02_SealVerifies.j0, if_neg Bool.false_ne_true]; rfl) hl)
    refine ⟨k, ?_⟩
    have hsame : sameS (i : Int) (sigL (tx a0) i (tx a3)) (pathL (tx a0) i n) i (sigL (tx a0) i (tx a3)) (pathL (tx a0) i n) = true := decide_eq_true ⟨rfl, rfl, rfl⟩
    unfold PSVerifies.planispherelaw02_SealVerifies.f planispherelaw02_head.f
    rw [Option.bind_some, short2, Option.bind_some, if_pos hsh, en, if_pos (by omega), if_neg (shl_ne n hn), pub_f a0 n hs0 (by omega), Option.bind_some, ei, sign_ok a0 a3 n i hs0 hs3 (by omega) hi, Option.bind_some, Option.bind_some,
      hw, sign_ok a0 a3 (n + 1) i hs0 hs3 (by omega) hi2, Option.bind_some, if_pos rfl, if_pos rfl, if_pos rfl, if_pos rfl, if_pos rfl, if_pos (by rw [sigL_len]; rfl), if_pos (by rw [pathL_len]), same_f _ _ _ _ _ _ (by rw [sigL_len]; decide) (by rw [pathL_len]; omega), Option.bind_some, hsame]
    exact hk
  · refine ⟨0, ?_⟩
    unfold PSVerifies.planispherelaw02_SealVerifies.f planispherelaw02_head.f
    rw [Option.bind_some, short2, Option.bind_some, if_neg hsh]
end Pure
end Go.Proofs.YteleheamnighkaaDoor
end
section
set_option linter.unusedVariables false
namespace Go.Proofs.YteleheamnighkaaDoor
open Go.ChangeShapes Go.WideShapes Go.ChangeAt Go.RowKit Go.Proofs.YteleheamnighkaaDoorW.PrintWords
open Go.ChangeMaps (open_string shut_string)
namespace RK
def laidL : List (String × DataW Unit) := [("math/bits.deBruijn32tab", Rows.laid_math_bits_deBruijn32tab), ("math/bits.deBruijn64tab", Rows.laid_math_bits_deBruijn64tab), ("internal/strconv.uint64pow10", Rows.laid_internal_strconv_uint64pow10), ("unicode/utf8.acceptRanges", Rows.laid_unicode_utf8_acceptRanges), ("unicode/utf8.first", Rows.laid_unicode_utf8_first)]
theorem pow_data : Rows.laid_internal_strconv_uint64pow10 (H := Unit) = Lib.tabData .u64 Lib.pow10Tab := by kernel_rfl
theorem tabIs_of_reads {P : Program} {W : World} {name : String} {k : IntKind} {zs : List Int} {g : Nat} {t e : TypeId} {n : Nat}
    (hg : P.globalNamed name = some g) (hty : (P.globals[g]?).map (·.type) = some t) (ht : P.underlying t = some (.array n e)) (he : P.underlying e = some (.int k)) (hce : P.cellsOf e = 1) (hct : P.cellsOf t = n)
    (h : Lib.VarReads P W name (Lib.tabData k zs)) : Lib.TabIs P W name k zs := by
  obtain ⟨g', t', cs, fuel, p, hg', ht', hvar, hd⟩ := h
  obtain rfl := Option.some.inj (hg.symm.trans hg')
  obtain rfl := Option.some.inj (hty.symm.trans ht')
  unfold Lib.TabIs
  rw [hvar, ← Lib.cells_of_tab ht he hce hct hd]
theorem glob {W : World} (h : laidMetH Tryd.prog laidL W) : Glob W := by
  rw [MakeChecks.laidMetH_plain _ _ _ (by kernel_rfl)] at h
  have hr := Lib.laidMet.reads h (n := "internal/strconv.uint64pow10") (d := Rows.laid_internal_strconv_uint64pow10) (by simp [laidL])
  rw [pow_data] at hr
  exact tabIs_of_reads (g := 0) (t := 118) (e := 54) (n := 20) (by kernel_rfl) (by kernel_rfl) Tryd.underlying118 Tryd.underlying54 (by kernel_rfl) (by kernel_rfl) hr
theorem own : ownKnob Tryd.prog.godebug = none := by kernel_rfl
theorem sized {H : Type} {ts : List TypeId} {ds : List (DataW H)} {s : ByteArray} (h : (DataW.weightsEach Tryd.prog ts ds).all (· ≤ reachBytes) = true) (j t : Nat) (ht : ts[j]? = some t) (hd : ds[j]? = some (.lit (.string s.data.toList))) : s.size ≤ 140737488351232 := by
  have z := sized_string h ht hd
  rw [Array.length_toList] at z
  exact z
variable {H : Type} {enc : TypeId × Value → H} {W : World} {base : Nat} {sp : Nat → Bool} {held : Bool}
end RK
end Go.Proofs.YteleheamnighkaaDoor
end
