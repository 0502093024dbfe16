/-
The walks of the digest's inner functions: mix, digits.
-/
import Derived.Test.YteleheamnighkaaDoorShelf
import Derived.Test.YteleheamnighkaaDoorKit
import Derived.Test.YteleheamnighkaaDoorDigPlain
import Derived.Deep.QuietTactic
import Derived.BigQuiet
import Derived.LoopTactic
set_option linter.unusedVariables false
set_option linter.unusedSimpArgs false
namespace Go.Proofs.YteleheamnighkaaDoor
open Go.RowKit Go.DoorKit

theorem ofInt_u (x : UInt64) : BitVec.ofInt 64 (x.toNat : Int) = x.toBitVec := by
  rw [BitVec.ofInt_natCast]; exact BitVec.ofNat_toNat ..
theorem xor_u (x y : UInt64) : bits .xor .u64 (x.toNat : Int) (y.toNat : Int) = ((x ^^^ y).toNat : Int) := by
  have h := (x ^^^ y).toNat_lt
  show IntKind.u64.wrap (((BitVec.ofInt 64 (x.toNat : Int)) ^^^ (BitVec.ofInt 64 (y.toNat : Int))).toNat : Int) = _
  rw [ofInt_u, ofInt_u, ← UInt64.toBitVec_xor]
  show IntKind.u64.wrap ((x ^^^ y).toNat : Int) = _
  rw [show IntKind.u64.wrap ((x ^^^ y).toNat : Int) = ((x ^^^ y).toNat : Int) % 18446744073709551616 by simp [IntKind.wrap, IntKind.bits, IntKind.signed]]
  omega
theorem shr_u32 (x : UInt64) : ((x.toNat : Int) / (4294967296 : Int)) = ((x >>> 32).toNat : Int) := by
  rw [UInt64.toNat_shiftRight, Nat.shiftRight_eq_div_pow]; rfl
theorem shr_u29 (x : UInt64) : ((x.toNat : Int) / (536870912 : Int)) = ((x >>> 29).toNat : Int) := by
  rw [UInt64.toNat_shiftRight, Nat.shiftRight_eq_div_pow]; rfl
theorem mul_any (z y : Int) (x c : UInt64) (hz : z = x.toNat) (hy : y = c.toNat) (w : World) :
    Calls Tryd.prog 68 #[.int .u64 z, .int .u64 y] w fun e w' => (∃ (hi : Int) (v : UInt64), Hid (v = x * c) ∧ e = .returned (.tuple #[.int .u64 hi, .int .u64 (v.toNat : Int)])) ∧ w' = w := by
  subst hz hy
  refine (Tryd.bits_Mul64 x.toNat c.toNat x.toNat_lt c.toNat_lt w).mono ?_
  rintro e w' ⟨rfl, rfl⟩
  exact ⟨⟨_, _, Lib.hid rfl, by rw [UInt64.toNat_mul]⟩, rfl⟩
theorem xs32 (x : UInt64) : bits .xor .u64 (x.toNat : Int) ((x.toNat : Int) / (4294967296 : Int)) = ((x ^^^ (x >>> 32)).toNat : Int) := by rw [shr_u32, xor_u]
theorem xs29 (x : UInt64) : bits .xor .u64 (x.toNat : Int) ((x.toNat : Int) / (536870912 : Int)) = ((x ^^^ (x >>> 29)).toNat : Int) := by rw [shr_u29, xor_u]

set_option maxHeartbeats 400000 in
theorem mix_calls (x : UInt64) (w : World) :
    Calls Tryd.prog 39 #[.int .u64 x.toNat] w fun e w' => e = .returned (.int .u64 (Dig.mix x).toNat) ∧ w' = w := by
  have hx : (0 : Int) ≤ x.toNat := by omega
  go_enter Tryd.func39, Tryd.ntmps39
  go_wp2_with fail
  refine (mul_any _ _ x 2862933555777941757 rfl rfl _).mono ?_
  rintro e w' ⟨⟨hi, v, hv, rfl⟩, rfl⟩
  go_wp2_with fail
  refine (mul_any _ _ (v ^^^ (v >>> 32)) 3935559000370003845 (xs32 v) rfl _).mono ?_
  rintro e w' ⟨⟨hi2, u, hu, rfl⟩, rfl⟩
  go_wp2_with fail
  go_ret
  exact ⟨by rw [xs29, hu.out, hv.out]; rfl, rfl⟩
end Go.Proofs.YteleheamnighkaaDoor
