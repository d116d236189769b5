/-
  math/bits.Mul64, math/bits.Mul.
-/
import Derived.Test.YtejombofjakllaaBase
import Derived.Lib.Mul64
import Derived.Laws.Bits64b
namespace Go.Proofs.Ytejombofjakllaa
open Go.RowKit Go.Lib

theorem m_mask (a : Nat) (ha : a < 18446744073709551616) : bits .and .u64 (a : Int) 4294967295 = ((a % 4294967296 : Nat) : Int) := by
  rw [show a % 4294967296 = a &&& 4294967295 from (Nat.and_two_pow_sub_one_eq_mod a 32).symm]
  exact bits_and_u64_nat a 4294967295 ha (by omega)
theorem m_div (a : Nat) : (a : Int) / 4294967296 = ((a / 4294967296 : Nat) : Int) := by omega
theorem m_mul (a b : Nat) : (a : Int) * (b : Int) = ((a * b : Nat) : Int) := (Int.natCast_mul a b).symm
theorem m_add (a b : Nat) : (a : Int) + (b : Int) = ((a + b : Nat) : Int) := (Int.natCast_add a b).symm
theorem m_wrap (a : Nat) (ha : a < 18446744073709551616) : IntKind.u64.wrap (a : Int) = (a : Int) := by rw [IntKind.wrap_u64]; omega
theorem m_wrapM (a : Nat) : IntKind.u64.wrap (a : Int) = ((a % 18446744073709551616 : Nat) : Int) := by rw [IntKind.wrap_u64]; omega

end Go.Proofs.Ytejombofjakllaa
