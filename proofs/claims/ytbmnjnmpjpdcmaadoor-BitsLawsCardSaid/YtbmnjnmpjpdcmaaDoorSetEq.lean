/- Two sets are compared. Conditions: none. -/
import Derived.Test.YtbmnjnmpjpdcmaaDoorBitsA
import Derived.ChangeKeysEq
import Derived.Laws.StructEq
namespace Go.Proofs.YtbmnjnmpjpdcmaaDoor
open Go.RowKit Go.Eg

theorem cells_u64 : Tryd.prog.cellsOf 22 = 1 := by kernel_rfl
theorem info_u64 : ∃ i, Tryd.prog.info? 22 = some i := info_of_underlying Tryd.underlying22
theorem eq_set (a0 a1 a2 a3 a4 a5 a6 a7 b0 b1 b2 b3 b4 b5 b6 b7 : Int) (w : World) :
    (Op.equalIn 10000 24 (.agg #[.int .u64 a0, .int .u64 a1, .int .u64 a2, .int .u64 a3, .int .u64 a4, .int .u64 a5, .int .u64 a6, .int .u64 a7]) (.agg #[.int .u64 b0, .int .u64 b1, .int .u64 b2, .int .u64 b3, .int .u64 b4, .int .u64 b5, .int .u64 b6, .int .u64 b7])).run Tryd.prog w = .ok (a0 == b0 && (a1 == b1 && (a2 == b2 && (a3 == b3 && (a4 == b4 && (a5 == b5 && (a6 == b6 && a7 == b7))))))) w := by
  obtain ⟨i, hi⟩ := info_u64
  have hu := Tryd.underlying22
  rw [run_equalIn_array w 9999 _ _ Tryd.underlying24 hi, cells_u64]
  simp only [List.range, List.range.loop]
  simp only [Op.eqItems, Sem.run_bind]
  simp [go_sem, part, hu, isAgg, run_underlying hu, run_equalIn_int]
  (repeat' split) <;> simp_all
end Go.Proofs.YtbmnjnmpjpdcmaaDoor
