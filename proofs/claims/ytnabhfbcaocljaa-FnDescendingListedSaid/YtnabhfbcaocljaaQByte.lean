import Derived.Test.YtnabhfbcaocljaaQTwo
import Derived.Laws.Bits64b
namespace Go.Proofs.Ytnabhfbcaocljaa.Q
open Go Go.RowKit
theorem byte_and (n : Int) : 0 ≤ wrap64 (Go.bits .and .u64 (IntKind.u64.wrap n / 1099511627776) 255) ∧ wrap64 (Go.bits .and .u64 (IntKind.u64.wrap n / 1099511627776) 255) ≤ 255 := by
  obtain ⟨m, hm⟩ : ∃ m : Nat, (m : Int) = IntKind.u64.wrap n / 1099511627776 := ⟨(IntKind.u64.wrap n / 1099511627776).toNat, by rw [IntKind.wrap_u64]; omega⟩
  have hm2 : m < 18446744073709551616 := by rw [IntKind.wrap_u64] at hm; omega
  rw [← hm, show (255 : Int) = ((255 : Nat) : Int) from rfl, bits_and_u64_nat m 255 hm2 (by omega)]
  have := @Nat.and_le_right m 255
  unfold wrap64
  omega
theorem byte_wf {x : Int} (h : (Lit.int .u8 x).wf = true) : 0 ≤ x ∧ x ≤ 255 := by
  simpa [Lit.wf, IntKind.min, IntKind.max, IntKind.signed, IntKind.bits] using h

end Go.Proofs.Ytnabhfbcaocljaa.Q
