/- Two pledges compared. Plain theorems; no condition beyond the bounds that each states. -/
import Derived.Test.YtdfckeabafbfdaaDoorBeS
namespace Go.Proofs.YtdfckeabafbfdaaDoor.Dr
open Go.RowKit

set_option maxRecDepth 100000 in
theorem part35 (a : PairM) (ha : a.dig.length = 32) (W : World) : (part 35 (pairC a).toArray 1).run Tryd.prog W = .ok (digV a.dig) W := by
  obtain ⟨no, d⟩ := a
  obtain ⟨b0, b1, b2, b3, b4, b5, b6, b7, b8, b9, b10, b11, b12, b13, b14, b15, b16, b17, b18, b19, b20, b21, b22, b23, b24, b25, b26, b27, b28, b29, b30, b31, rfl⟩ := list32 d ha
  kernel_rfl
theorem part3 (a : PairM) (W : World) : (part 3 (pairC a).toArray 0).run Tryd.prog W = .ok (.int .i64 a.office) W := by kernel_rfl
theorem equal3 (W : World) (a b : Int) : (Op.equalIn 9999 3 (.int .i64 a) (.int .i64 b)).run Tryd.prog W = .ok (a == b) W := by
  unfold Op.equalIn
  simp only [Sem.run_bind, run_underlying Tryd.underlying3, Result.andThen_ok, if_true, Sem.run_pure]
theorem run_equal_pair (a b : PairM) (ha : a.dig.length = 32) (hb : b.dig.length = 32) (W : World) :
    (Op.equalIn 10000 46 (.agg (pairC a).toArray) (.agg (pairC b).toArray)).run Tryd.prog W = .ok (a.office == b.office && a.dig == b.dig) W := by
  have h1 : (program).run Tryd.prog W = .ok Tryd.prog W := rfl
  have h2 : Tryd.prog.stoodInHeld 46 = false := by kernel_rfl
  have h3 := equal3 W a.office b.office
  have h4 : (Op.equalIn 9999 35 (digV a.dig) (digV b.dig)).run Tryd.prog W = .ok (a.dig == b.dig) W :=
    run_equalIn_bytes W 9997 35 5 32 Tryd.underlying35 Tryd.underlying5 (fun w => by kernel_rfl) a.dig b.dig ha hb
  unfold Op.equalIn
  simp only [Sem.run_bind, run_underlying Tryd.underlying46, Result.andThen_ok, h1, h2, Bool.false_eq_true, if_false, List.forIn_toArray, List.forIn_cons, List.forIn_nil, ne_eq]
  have p1 := part3 a W
  have p2 := part3 b W
  have p3 := part35 a ha W
  have p4 := part35 b hb W
  revert h3 h4 p1 p2 p3 p4
  cases a.office == b.office <;> cases a.dig == b.dig <;> (intro h3 h4 p1 p2 p3 p4; simp [Sem.run_bind, Result.andThen, h3, h4, p1, p2, p3, p4])
end Go.Proofs.YtdfckeabafbfdaaDoor.Dr
