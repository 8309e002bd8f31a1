/- Links in memory; contracts of number, text and list of package chain. Plain theorems; no condition beyond the bounds that each states. -/
import Derived.Test.YtdfckeabafbfdaaDoorCoG
import Derived.Deep.MidRow
import Derived.Laws.BytesArg
import Derived.Laws.BytesString
namespace Go.Proofs.YtdfckeabafbfdaaDoor.Dr
open Go.RowKit

theorem conv_bytes {w : World} {a : Option Addr} {n c : Nat} {bs : List UInt8} (h : Sl 1 IsByte w a n bs) : (convert 23 9 (.slice a n c)).run Tryd.prog w = .ok (.string (strB bs)) w := by
  obtain ⟨hl, h⟩ := h
  subst hl
  cases a with
  | none =>
    rcases h with h | ⟨b, off, h, _⟩
    · rw [run_convert_bytes_nil w 23 5 Tryd.underlying23 Tryd.underlying5 _ _ 9 Tryd.underlying9]
      rw [List.eq_nil_of_length_eq_zero h]
      rfl
    · cases h
  | some ad =>
    rcases h with h | ⟨b, off, h, hc⟩
    · have h0 : bs = [] := List.eq_nil_of_length_eq_zero h
      subst h0
      rw [run_convert_bytes_string w 23 9 5 _ _ _ Tryd.underlying23 Tryd.underlying5 Tryd.underlying9]
      rw [show ([] : List UInt8).length = 0 from rfl, run_bytesToString w ad 0 c [] (by simp [loadCells, loadCellsFrom, Sem.run_pure])]
      rfl
    · simp only [Option.some.injEq] at h
      subst h
      have := run_convert_bytes_arg (P := Tryd.prog) w 23 5 Tryd.underlying23 Tryd.underlying5 b off bs.length c (bs.map fun x => (x.toNat : Int)) (by simp) (fun i hi => by
        obtain ⟨vs, _, hv, hcell⟩ := hc i bs[i] (List.getElem?_eq_getElem hi)
        obtain rfl : vs = _ := hv
        have h2 := hcell 0 _ rfl
        simp only [Nat.mul_one, Nat.add_zero] at h2
        rw [h2]
        simp [List.getD, hi]) 9 Tryd.underlying9
      rw [this]
      simp [strOfNums, strB, Function.comp_def]

/-- A link. -/
structure LinkM where
  node : Int
  no : Int
  prev : List UInt8
  data : List UInt8
/-- The cells of a link whose data lie in a slice. -/
def linkC (x : LinkM) (a : Option Addr) (n c : Nat) : List Value := .int .i64 x.node :: .int .i64 x.no :: (byteVals x.prev ++ [.slice a n c])
theorem linkC_len {x : LinkM} (h : x.prev.length = 32) (a : Option Addr) (n c : Nat) : (linkC x a n c).length = 35 := by simp [linkC, byteVals, h]
theorem info37 : (Tryd.prog.info? 37).map (·.size) = some 35 := by kernel_rfl
def I64 (n : Int) : Prop := -9223372036854775808 ≤ n ∧ n ≤ 9223372036854775807
/-- 35 cells read as a link. -/
def IsLink : World → List Value → LinkM → Prop := fun w vs x => ∃ a n c, vs = linkC x a n c ∧ x.prev.length = 32 ∧ I64 x.node ∧ I64 x.no ∧ n ≤ c ∧ Sl 1 IsByte w a n x.data
theorem IsLink.keeps : Keeps IsLink := fun _ _ _ _ hb ⟨a, n, c, h1, h2, h3, h4, h5, h6⟩ => ⟨a, n, c, h1, h2, h3, h4, h5, h6.below IsByte.keeps hb⟩

set_option maxRecDepth 100000 in
theorem number_any (n : Int) (w : World) :
    Calls Tryd.prog 46 #[.int .i64 n] w fun e w' => e = .returned (.agg #[.int .i64 1, .int .i64 n, .string ⟨#[]⟩, .slice none 0 0]) ∧ Below w.heap.size w w' := by
  go_enter Tryd.func46, Tryd.ntmps46
  go_wp2
  refine bodyPost_ret (by simp [results, Tryd.results46, go_sem]; try rfl) rfl ?_
  exact ⟨rfl, by go_grown⟩
set_option maxRecDepth 100000 in
theorem ctext_any (a : Option Addr) (n c : Nat) (l : List UInt8) (w : World) (h : Sl 1 IsByte w a n l) :
    Calls Tryd.prog 47 #[.slice a n c] w fun e w' => e = .returned (.agg #[.int .i64 2, .int .i64 0, .string (strB l), .slice none 0 0]) ∧ Below w.heap.size w w' := by
  have hB := (Below.refl _ w).alloc (Nat.le_refl _) (.cells #[.int .i64 0, .int .i64 0, .string ⟨#[]⟩, .slice none 0 0] 77)
  have hcv := conv_bytes (c := c) (h.below IsByte.keeps hB)
  clear hB
  go_enter Tryd.func47, Tryd.ntmps47
  go_wp2
  refine bodyPost_ret (by simp [results, Tryd.results47, go_sem]; try rfl) rfl ?_
  exact ⟨rfl, by go_grown⟩
set_option maxRecDepth 100000 in
theorem clist_any (a : Option Addr) (n c : Nat) (w : World) :
    Calls Tryd.prog 45 #[.slice a n c] w fun e w' => e = .returned (.agg #[.int .i64 3, .int .i64 0, .string ⟨#[]⟩, .slice a n c]) ∧ Below w.heap.size w w' := by
  go_enter Tryd.func45, Tryd.ntmps45
  go_wp2
  refine bodyPost_ret (by simp [results, Tryd.results45, go_sem]; try rfl) rfl ?_
  exact ⟨rfl, by go_grown⟩
end Go.Proofs.YtdfckeabafbfdaaDoor.Dr
