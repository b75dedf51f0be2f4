/- Two prefixes are held against each other. No condition but those that stand in each theorem. -/
import Derived.Test.YtlealjcllbpgkaaIp1
namespace Go.Proofs.Ytlealjcllbpgkaa
open Go.RowKit

theorem gt_pfx : (Try.prog).eqGuardType (Try.prog).depth 26 = false := by kernel_rfl
theorem si_pfx : (Try.prog).stoodInHeld 26 = false := by kernel_rfl
theorem un_pfx : (Try.prog).underlying 26 = some (.struct ((Try.prog).fieldsOf 26)) := by kernel_rfl

theorem guard_pfx (op : BinOp) (x y : Operand) (xs ys : Array Value) (w : World) : (eqGuard op 26 x y (.agg xs) (.agg ys)).run Try.prog w = .ok () w :=
  run_eqGuard_agg w op _ x y xs ys gt_pfx

theorem eqin_pfx (a n b m : Int) (w : World) : (Op.equalIn 10000 26 (.agg #[.int .i64 a, .int .i64 n]) (.agg #[.int .i64 b, .int .i64 m])).run Try.prog w = .ok (a == b && n == m) w := by
  rw [run_equalIn_struct w 9999 _ _ _ un_pfx si_pfx]
  have hf : ((Try.prog).fieldsOf 26).toList = [⟨"Addr", 3, 0, false, "", "", 0⟩, ⟨"Len", 3, 1, false, "", "", 8⟩] := by kernel_rfl
  rw [hf]
  simp [Op.eqFields, go_sem]
  by_cases h1 : a = b <;> by_cases h2 : n = m <;> simp [h1, h2]
theorem eql_pfx (a n b m : Int) (w : World) : (binOp .eql 26 (.agg #[.int .i64 a, .int .i64 n]) (.agg #[.int .i64 b, .int .i64 m])).run Try.prog w = .ok (.bool (a == b && n == m)) w := by
  rw [run_eql_struct, eqin_pfx]; rfl
theorem neq_pfx (a n b m : Int) (w : World) : (binOp .neq 26 (.agg #[.int .i64 a, .int .i64 n]) (.agg #[.int .i64 b, .int .i64 m])).run Try.prog w = .ok (.bool (!(a == b && n == m))) w := by
  rw [run_neq_struct, eqin_pfx]; rfl
end Go.Proofs.Ytlealjcllbpgkaa
