/- Two stats compared; a pod's stats among new blocks. -/
import Derived.Test.YtnlfocmmnjgmpaaD2
import Derived.Laws.StructEq
namespace Go.Proofs.Ytnlfocmmnjgmpaa.D3
open Go.RowKit Go.Proofs.Ytnlfocmmnjgmpaa.Fl Go.Proofs.Ytnlfocmmnjgmpaa.L Go.Proofs.Ytnlfocmmnjgmpaa.B Go.Proofs.Ytnlfocmmnjgmpaa.D Go.Proofs.Ytnlfocmmnjgmpaa.D2

theorem ht61 : Try.prog.underlying 61 = some (.struct (Try.prog.fieldsOf 61)) := by kernel_rfl
theorem hp61 : Try.prog.stoodInHeld 61 = false := by kernel_rfl
theorem hm61 : Try.prog.eqGuardType Try.prog.depth 61 = false := by kernel_rfl

theorem fields61 : ∃ f0 f1 f2 : Field, Try.prog.fieldsOf 61 = #[f0, f1, f2] ∧ Try.prog.underlying f0.type = some (.int .i64) ∧ Try.prog.underlying f1.type = some (.int .i64) ∧ Try.prog.underlying f2.type = some (.int .i64) ∧ f0.name ≠ "_" ∧ f1.name ≠ "_" ∧ f2.name ≠ "_" ∧
    (∀ (a b c : Int) (w : World), (part f0.type #[.int .i64 a, .int .i64 b, .int .i64 c] f0.offset).run Try.prog w = .ok (.int .i64 a) w) ∧ (∀ (a b c : Int) (w : World), (part f1.type #[.int .i64 a, .int .i64 b, .int .i64 c] f1.offset).run Try.prog w = .ok (.int .i64 b) w) ∧ (∀ (a b c : Int) (w : World), (part f2.type #[.int .i64 a, .int .i64 b, .int .i64 c] f2.offset).run Try.prog w = .ok (.int .i64 c) w) := by
  have h := ht61
  rw [Try.underlying61] at h
  simp only [Option.some.injEq, TypeDesc.struct.injEq] at h
  exact ⟨_, _, _, h.symm, by kernel_rfl, by kernel_rfl, by kernel_rfl, by decide, by decide, by decide, fun _ _ _ _ => by kernel_rfl, fun _ _ _ _ => by kernel_rfl, fun _ _ _ _ => by kernel_rfl⟩

theorem eqS (a b c : Int) (w : World) : (binOp .eql 61 (.agg #[.int .i64 a, .int .i64 b, .int .i64 c]) (.agg #[.int .i64 a, .int .i64 b, .int .i64 c])).run Try.prog w = .ok (.bool true) w := by
  obtain ⟨f0, f1, f2, hf, h0, h1, h2, n0, n1, n2, p0, p1, p2⟩ := fields61
  have q0 := fun a b w => run_equalIn_int (P := Try.prog) w 9998 f0.type .i64 .i64 a b h0
  have q1 := fun a b w => run_equalIn_int (P := Try.prog) w 9998 f1.type .i64 .i64 a b h1
  have q2 := fun a b w => run_equalIn_int (P := Try.prog) w 9998 f2.type .i64 .i64 a b h2
  rw [run_eql_struct, run_equalIn_agg _ _ _ _ _ ht61 hp61, hf]
  simp [Op.eqFields, n0, n1, n2, p0, p1, p2, q0, q1, q2]
theorem neS (a b c : Int) (w : World) : (binOp .neq 61 (.agg #[.int .i64 a, .int .i64 b, .int .i64 c]) (.agg #[.int .i64 a, .int .i64 b, .int .i64 c])).run Try.prog w = .ok (.bool false) w := by
  obtain ⟨f0, f1, f2, hf, h0, h1, h2, n0, n1, n2, p0, p1, p2⟩ := fields61
  have q0 := fun a b w => run_equalIn_int (P := Try.prog) w 9998 f0.type .i64 .i64 a b h0
  have q1 := fun a b w => run_equalIn_int (P := Try.prog) w 9998 f1.type .i64 .i64 a b h1
  have q2 := fun a b w => run_equalIn_int (P := Try.prog) w 9998 f2.type .i64 .i64 a b h2
  rw [run_neq_struct, run_equalIn_agg _ _ _ _ _ ht61 hp61, hf]
  simp [Op.eqFields, n0, n1, n2, p0, p1, p2, q0, q1, q2]
theorem guS (op : BinOp) (x y : Operand) (xs ys : Array Value) (w : World) : (eqGuard op 61 x y (.agg xs) (.agg ys)).run Try.prog w = .ok () w := run_eqGuard_agg w op 61 x y xs ys hm61
end Go.Proofs.Ytnlfocmmnjgmpaa.D3
