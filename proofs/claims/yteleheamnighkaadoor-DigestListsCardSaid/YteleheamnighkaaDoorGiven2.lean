/-
The references' functions as plain functions without rounds, and their contracts in the printer's form.
-/
import Derived.Test.YteleheamnighkaaDoorDig7
set_option linter.unusedVariables false
set_option linter.unusedSimpArgs false
namespace Go.Proofs.YteleheamnighkaaDoor
open Go.RowKit Go.DoorKit Go.Proofs.YteleheamnighkaaDoorW.PrintWords
/-- A slice's length. -/
def Len63 (n : Nat) : Prop := n ≤ 9223372036854775807
instance (n : Nat) : Decidable (Len63 n) := inferInstanceAs (Decidable (n ≤ 9223372036854775807))
theorem Len63.out {n : Nat} (h : Len63 n) : n ≤ 9223372036854775807 := h
theorem if_out {α : Type} {c : Prop} [Decidable c] {x r : α} (h : (if c then some x else none) = some r) : c ∧ x = r := by
  split at h
  · exact ⟨‹_›, Option.some.inj h⟩
  · cases h
def planisphereref01_Sum.f (a0 : ByteArray) : Option ByteArray := if Big a0.size then some (ofT (Dig.sum (tx a0))) else none
theorem planisphereref01_Sum.calls (a0 : ByteArray) (r : ByteArray) (w : World) (h : planisphereref01_Sum.f a0 = some r) :
    Calls Tryd.prog 18 #[.string a0] w fun e w' => e = .returned (.string r) ∧ Drawn0 w w' := by
  obtain ⟨hb, rfl⟩ := if_out h
  obtain ⟨k, hk⟩ := BaseFacts.sum_f a0 hb.out
  exact PBase.planisphereref01_Sum.calls k a0 _ w hk
def planisphereref01_Decimal.f (a0 : Int) : Option ByteArray := if 0 ≤ a0 ∧ a0 ≤ 140737488355328 then some (ofT (Lib.decDigits a0.toNat)) else none
theorem planisphereref01_Decimal.calls (a0 : Int) (r : ByteArray) (w : World) (h : planisphereref01_Decimal.f a0 = some r) :
    Calls Tryd.prog 47 #[.int .i64 a0] w fun e w' => e = .returned (.string r) ∧ Drawn0 w w' := by
  obtain ⟨hb, rfl⟩ := if_out h
  obtain ⟨u, rfl⟩ := Int.eq_ofNat_of_zero_le hb.1
  exact PBase.planisphereref01_Decimal.calls 30 u _ w (BaseFacts.decimal_f u (by omega))
def planisphereref01_Is.f (a0 : ByteArray) : Option Bool := if Big a0.size then some (Dig.isD (tx a0)) else none
theorem planisphereref01_Is.calls (a0 : ByteArray) (r : Bool) (w : World) (h : planisphereref01_Is.f a0 = some r) :
    Calls Tryd.prog 22 #[.string a0] w fun e w' => e = .returned (.bool r) ∧ Drawn0 w w' := by
  obtain ⟨hb, rfl⟩ := if_out h
  exact PBase.planisphereref01_Is.calls 100 a0 _ w (BaseFacts.is_f a0 hb.out)
def planisphereref01_Same.f (l0 l1 : List ByteArray) : Option Bool := if Len63 l0.length then some (decide (l0 = l1)) else none
theorem planisphereref01_Same.calls (A0 : Option Addr) (c0 : Nat) (l0 : List ByteArray) (A1 : Option Addr) (c1 : Nat) (l1 : List ByteArray) (r : Bool) (w : World) (hr0 : Kd.C Kd.string w A0 l0.length l0) (hc0 : l0.length ≤ c0) (hr1 : Kd.C Kd.string w A1 l1.length l1) (hc1 : l1.length ≤ c1) (h : planisphereref01_Same.f l0 l1 = some r) :
    Calls Tryd.prog 24 #[.slice A0 l0.length c0, .slice A1 l1.length c1] w fun e w' => e = .returned (.bool r) ∧ Drawn0 w w' := by
  obtain ⟨hb, rfl⟩ := if_out h
  exact PBase.planisphereref01_Same.calls _ A0 c0 l0 A1 c1 l1 _ w hr0 hc0 hr1 hc1 (BaseFacts.same_f l0 l1 hb.out)
def planisphereref01_Few.f (l0 : List ByteArray) (a1 : Int) : Option Bool := if Len63 l0.length then some (BaseFacts.few l0 a1) else none
theorem planisphereref01_Few.calls (A0 : Option Addr) (c0 : Nat) (l0 : List ByteArray) (a1 : Int) (r : Bool) (w : World) (hr0 : Kd.C Kd.string w A0 l0.length l0) (hc0 : l0.length ≤ c0) (h : planisphereref01_Few.f l0 a1 = some r) :
    Calls Tryd.prog 16 #[.slice A0 l0.length c0, .int .i64 a1] w fun e w' => e = .returned (.bool r) ∧ Drawn0 w w' := by
  obtain ⟨hb, rfl⟩ := if_out h
  exact PBase.planisphereref01_Few.calls _ A0 c0 l0 a1 _ w hr0 hc0 (BaseFacts.few_f l0 a1 hb.out)
def planispherelaw02_short.f (l0 : List ByteArray) : Option Bool := if Len63 l0.length then some (BaseFacts.shortT l0) else none
theorem planispherelaw02_short.calls (A0 : Option Addr) (c0 : Nat) (l0 : List ByteArray) (r : Bool) (w : World) (hr0 : Kd.C Kd.string w A0 l0.length l0) (hc0 : l0.length ≤ c0) (h : planispherelaw02_short.f l0 = some r) :
    Calls Tryd.prog 26 #[.slice A0 l0.length c0] w fun e w' => e = .returned (.bool r) ∧ Drawn0 w w' := by
  obtain ⟨hb, rfl⟩ := if_out h
  exact PBase.planispherelaw02_short.calls _ A0 c0 l0 _ w hr0 hc0 (BaseFacts.short_f l0 hb.out)
def planisphereref01_Joined.f (l0 : List ByteArray) : Option ByteArray := if Big (need l0) then some (ofT (Dig.joined (l0.map tx))) else none
theorem planisphereref01_Joined.calls (A0 : Option Addr) (c0 : Nat) (l0 : List ByteArray) (r : ByteArray) (w : World) (hr0 : Kd.C Kd.string w A0 l0.length l0) (hc0 : l0.length ≤ c0) (h : planisphereref01_Joined.f l0 = some r) :
    Calls Tryd.prog 23 #[.slice A0 l0.length c0] w fun e w' => e = .returned (.string r) ∧ Below w.heap.size w w' := by
  obtain ⟨hb, rfl⟩ := if_out h
  exact joined_calls A0 c0 l0 w hr0 hc0 hb
def planisphereref02_Power.f (a0 : Int) : Option Int := if 0 ≤ a0 ∧ a0 ≤ 62 then some ((2 ^ a0.toNat : Nat) : Int) else none
theorem planisphereref02_Power.calls (a0 : Int) (r : Int) (w : World) (h : planisphereref02_Power.f a0 = some r) :
    Calls Tryd.prog 55 #[.int .i64 a0] w fun e w' => e = .returned (.int .i64 r) ∧ Drawn0 w w' := by
  obtain ⟨hb, rfl⟩ := if_out h
  obtain ⟨u, rfl⟩ := Int.eq_ofNat_of_zero_le hb.1
  exact PBase.planisphereref02_Power.calls _ u _ w (BaseFacts.power_f u (by omega))
end Go.Proofs.YteleheamnighkaaDoor
