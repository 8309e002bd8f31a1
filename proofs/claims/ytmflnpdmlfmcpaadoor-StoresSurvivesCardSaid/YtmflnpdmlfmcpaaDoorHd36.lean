/- The texts SuE SuD of this seat, joined. No condition beyond what each theorem states. -/
import Derived.Test.YtmflnpdmlfmcpaaDoorHd35
import Derived.Test.YtmflnpdmlfmcpaaDoorHd31
import Derived.Test.YtmflnpdmlfmcpaaDoorHd32
import Derived.Test.YtmflnpdmlfmcpaaDoorHd11
import Derived.Deep.DeepCutAuto
/- The contracts of package stores with what they give said ahead. Plain theorems; no condition beyond the bounds that each states. -/
namespace Go.Proofs.YtmflnpdmlfmcpaaDoor.Dr
open Go.RowKit Go.Shelf
/-- What a call gave, said part by part. -/
def GaveG (Nz : Nat) (e : Ending) (w : World) (x : JourM) (m : List LinkM) (k : Int) : Prop := ∃ a n c va vn vc, e = .returned (.tuple #[.agg #[.slice a n c, .int .i64 x.many, .int .i64 x.synced], .slice va vn vc, .int .i64 k]) ∧ JourR Nz w a n c x ∧ vn ≤ vc ∧ Sl 35 IsLink w va vn m
theorem GaveW.g {Nz : Nat} {e : Ending} {w : World} {r : JourM × List LinkM × Int} {x : JourM} {m : List LinkM} {k : Int} (h : GaveW Nz e w r) (hr : r = (x, m, k)) : GaveG Nz e w x m k := by
  subst hr
  exact h
theorem sopen_w {Nz : Nat} (a1 : Option Addr) (n1 c1 : Nat) (a2 : Option Addr) (n2 c2 : Nat) (d : DiskM) (w : World) (hn : d.okB = true → n1 ≤ 100) (hi : Init w) (h : DiskR Nz w a1 n1 c1 a2 n2 c2 d) :
    Calls Tryd.prog 9 #[.agg #[.slice a1 n1 c1, .slice a2 n2 c2, .int .i64 d.left, .bool d.stopped]] w fun e w' => GaveW Nz e w' (sopenM d) ∧ Below w.heap.size w w' :=
  (sopen_any a1 n1 c1 a2 n2 c2 d w hn hi h).mono fun e w' ⟨⟨a, n, c, vs, va, vn, vc, us, he, hj, hown, hfl⟩, hB⟩ => by
    obtain ⟨h1, h2⟩ := sl_of_owns (by decide) hown _ (AppI.len hown hfl).symm (flat_link hfl)
    exact ⟨⟨a, n, c, va, vn, vc, he, hj.jour, h1, h2⟩, hB⟩
theorem sopen_g {Nz : Nat} {a1 : Option Addr} {n1 c1 : Nat} {a2 : Option Addr} {n2 c2 : Nat} {d : DiskM} {w : World} {x : JourM} {m : List LinkM} {k : Int} (hn : d.okB = true → n1 ≤ 100) (hi : Init w) (h : DiskR Nz w a1 n1 c1 a2 n2 c2 d) (hr : sopenM d = (x, m, k)) :
    Calls Tryd.prog 9 #[.agg #[.slice a1 n1 c1, .slice a2 n2 c2, .int .i64 d.left, .bool d.stopped]] w fun e w' => GaveG Nz e w' x m k ∧ Below w.heap.size w w' :=
  (sopen_w a1 n1 c1 a2 n2 c2 d w hn hi h).mono fun _ _ ⟨h1, h2⟩ => ⟨h1.g hr, h2⟩
theorem swrite_g {Nz : Nat} {a : Option Addr} {n c : Nat} {j : JourM} {la : Option Addr} {ln lc : Nat} {l : List LinkM} {node : Int} {da : Option Addr} {dn dc : Nat} {d : List UInt8} {w : World} {x : JourM} {m : List LinkM} {k : Int} (hNz : Nz ≤ w.heap.size) (hi : Init w) (h : JourR Nz w a n c j)
    (hln : ln ≤ 100000) (hlc : ln ≤ lc) (hl : Sl 35 IsLink w la ln l) (hld : ∀ x ∈ l, x.data.length ≤ 100000) (hI : I64 node) (hdn : dn ≤ 1000000) (hs : Sl 1 IsByte w da dn d) (hr : swriteM j l node d = (x, m, k)) :
    Calls Tryd.prog 7 #[.agg #[.slice a n c, .int .i64 j.many, .int .i64 j.synced], .slice la ln lc, .int .i64 node, .slice da dn dc] w fun e w' => GaveG Nz e w' x m k ∧ Below w.heap.size w w' :=
  (swrite_any a n c j la ln lc l node da dn dc d w hNz hi h hln hlc hl hld hI hdn hs).mono fun _ _ ⟨h1, h2⟩ => ⟨h1.g hr, h2⟩
/-- What Sync gave, said part by part. -/
def GaveY (Nz : Nat) (e : Ending) (w : World) (x : JourM) (y : DiskM) (k : Int) : Prop := ∃ a n c a1 n1 c1 a2 n2 c2, e = .returned (.tuple #[.agg #[.slice a n c, .int .i64 x.many, .int .i64 x.synced], .agg #[.slice a1 n1 c1, .slice a2 n2 c2, .int .i64 y.left, .bool y.stopped], .int .i64 k]) ∧ JourR Nz w a n c x ∧ DiskR Nz w a1 n1 c1 a2 n2 c2 y
theorem GaveSync.g {Nz : Nat} {e : Ending} {w : World} {r : JourM × DiskM × Int} {x : JourM} {y : DiskM} {k : Int} (h : GaveSync Nz e w r) (hr : r = (x, y, k)) : GaveY Nz e w x y k := by
  subst hr
  exact h
theorem ssync_g {Nz : Nat} {a : Option Addr} {n c : Nat} {j : JourM} {a1 : Option Addr} {n1 c1 : Nat} {a2 : Option Addr} {n2 c2 : Nat} {d : DiskM} {w : World} {x : JourM} {y : DiskM} {k : Int} (hNz : Nz ≤ w.heap.size) (hn : n1 ≤ 60) (hi : Init w) (h : JourR Nz w a n c j) (hD : DiskR Nz w a1 n1 c1 a2 n2 c2 d) (hr : ssyncM j d = (x, y, k)) :
    Calls Tryd.prog 11 #[.agg #[.slice a n c, .int .i64 j.many, .int .i64 j.synced], .agg #[.slice a1 n1 c1, .slice a2 n2 c2, .int .i64 d.left, .bool d.stopped]] w fun e w' => GaveY Nz e w' x y k ∧ Below w.heap.size w w' :=
  (ssync_any a n c j a1 n1 c1 a2 n2 c2 d w hNz hn hi h hD).mono fun _ _ ⟨h1, h2⟩ => ⟨GaveSync.g h1 hr, h2⟩
theorem jsync_y {Nz : Nat} {a : Option Addr} {n c : Nat} {j : JourM} {a1 : Option Addr} {n1 c1 : Nat} {a2 : Option Addr} {n2 c2 : Nat} {d : DiskM} {w : World} {x : JourM} {y : DiskM} {k : Int} (hNz : Nz ≤ w.heap.size) (hn : n1 ≤ 60) (h : JourR Nz w a n c j) (hD : DiskR Nz w a1 n1 c1 a2 n2 c2 d) (hr : syncM j d = (x, y, k)) :
    Calls Tryd.prog 32 #[.agg #[.slice a n c, .int .i64 j.many, .int .i64 j.synced], .agg #[.slice a1 n1 c1, .slice a2 n2 c2, .int .i64 d.left, .bool d.stopped]] w fun e w' => GaveY Nz e w' x y k ∧ Below w.heap.size w w' :=
  (jsync_any a n c j a1 n1 c1 a2 n2 c2 d w hNz hn h hD).mono fun _ _ ⟨h1, h2⟩ => ⟨GaveSync.g h1 hr, h2⟩
end Go.Proofs.YtmflnpdmlfmcpaaDoor.Dr

/- The contract of written of the package of the statements across layers. Plain theorems; no condition beyond the bounds that each states. -/
namespace Go.Proofs.YtmflnpdmlfmcpaaDoor.Dr
open Go.RowKit Go.Shelf
theorem hold_mid {P : Program} {o : Oper} {K0 : Act → World → Prop} {Q0 : Exit → Act → World → Prop} {a : Act} {w : World} (d : Nat) (R : Value → World → Prop) (_hd : o.dst = some d)
    (hrun : ∀ (K : Act → World → Prop) (Q : Exit → Act → World → Prop), (∀ v w', R v w' → K (a.put (some d) v) w') → o.wp P a w K Q)
    (h : ∀ v w', R v w' → K0 (a.put (some d) v) w') : o.wp P a w K0 Q0 := hrun _ _ h
theorem node_next {l : List LinkM} {node : Int} {d : List UInt8} (h3 : ∀ x, l[0]? = some x → x.node = node) : ∀ x, (l ++ [nextL l node d])[0]? = some x → x.node = node := fun x hx => by
  cases l with
  | nil => simp at hx; subst hx; rfl
  | cons y l => exact h3 x (by simpa using hx)
theorem KeepsL.bounds {S sy : Nat} {j : JourM} {l : List LinkM} (h : KeepsL S sy j l) : l.length ≤ 1024 ∧ ∀ x ∈ l, x.data.length ≤ 65536 := by
  obtain ⟨h1, h2⟩ := checkM_iff.1 h.check
  refine ⟨h1, fun x hx => ?_⟩
  obtain ⟨k, hk⟩ := List.mem_iff_getElem?.1 hx
  exact (h2 k x hk).len
theorem run_op_ld30 {o : Oper} {a : Act} {W : World} (x : Operand) (ho : o.op = .load 30 x) (p : Addr) {v : Value} (hx : a.eval x = .pointer (some p)) (hc : W.cell? p = some v) : (execOp a.eval o).run Tryd.prog W = .ok (.value v) W := by
  unfold execOp
  simp only [ho, hx]
  go_simp
end Go.Proofs.YtmflnpdmlfmcpaaDoor.Dr
