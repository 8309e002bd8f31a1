/- Joined texts. -/
import Derived.Test.YtmflnpdmlfmcpaaGreatDoorJw08
import Derived.Test.YtmflnpdmlfmcpaaGreatDoorJw26
import Derived.Lay
import Derived.LaidHandle
import Derived.Lib.LaidTab
import Derived.MakeChecks
import Derived.LaidSub
set_option maxRecDepth 100000
namespace Go.Proofs.YtmflnpdmlfmcpaaGreatDoor.Dr
open Go.RowKit
structure gY (P : Program) (ops : Array Oper) (w : World) (K : Act -> Prop) (l : List Oper) (a : Act) : Prop where
 out : wpQuiet P ops (fun w' => ∃ z : aR w, w' = z.wd) K l a
theorem qx {P : Program} {id : Nat} {Q : Exit -> Act -> World -> Prop} {a : Act} {w : World} {l : List Oper} (hm : P.follows .mixedOrders = true) (hB : Region.lexB .any l.toArray = true)
  (h : gY P l.toArray w (fun a' => ∀ w', (∃ z : aR w, w' = z.wd) -> Q .normal a' w') l a) : (Code.region id l.toArray true).wp P Q a w :=
 eu hm hB h.out
section
variable {P : Program} {ops : Array Oper} {w : World} {K : Act -> Prop} {a : Act} {o : Oper} {rest : List Oper}
theorem ro (v : Value) (hw : Region.wanted o (yielded ops a.tmps) = true) (hr : ∀ z : aR w, (execOp a.eval o).run P z.wd = .ok (.value v) z.wd) (h : gY P ops w K rest (a.put o.dst v)) : gY P ops w K (o :: rest) a := ⟨nv v hw hr h.out⟩
theorem yQ (v : Value) (f : FuncId) (args : Array Value) (hw : Region.wanted o (yielded ops a.tmps) = true) (hr : ∀ W, (execOp a.eval o).run P W = .ok (.enter f args) W)
  (hc : ∀ z : aR w, Calls P f args z.wd fun e W' => e = .returned v /\ Below z.wd.heap.size z.wd W') (h : gY P ops w K rest (a.put o.dst v)) : gY P ops w K (o :: rest) a := ⟨kS v f args hw hr hc h.out⟩
theorem yR (hw : Region.wanted o (yielded ops a.tmps) = false) (h : gY P ops w K rest (a.put o.dst undef)) : gY P ops w K (o :: rest) a := ⟨yN hw h.out⟩
theorem io (h : K a) : gY P ops w K [] a := ⟨wpQuiet_nil h⟩
end
section
variable {P : Program} {ops : Array Oper} {w : World} {K : Act -> Prop} {rest : List Oper} {o : Oper} {a : Act}
theorem cn (v : Value) (h : gY P ops w K rest (a.put o.dst v)) (hw : Region.wanted o (yielded ops a.tmps) = true := by kernel_rfl) (hr : ∀ z : aR w, (execOp a.eval o).run P z.wd = .ok (.value v) z.wd := by intro z; kernel_rfl) : gY P ops w K (o :: rest) a := ro v hw hr h
theorem gr (v : Value) (hr : ∀ z : aR w, (execOp a.eval o).run P z.wd = .ok (.value v) z.wd) (h : gY P ops w K rest (a.put o.dst v)) (hw : Region.wanted o (yielded ops a.tmps) = true := by kernel_rfl) : gY P ops w K (o :: rest) a := ro v hw hr h
theorem bw (h : gY P ops w K rest (a.put o.dst undef)) (hw : Region.wanted o (yielded ops a.tmps) = false := by kernel_rfl) : gY P ops w K (o :: rest) a := yR hw h
end
end Go.Proofs.YtmflnpdmlfmcpaaGreatDoor.Dr
namespace Go.Proofs.YtmflnpdmlfmcpaaGreatDoor.Dr
open Go.RowKit Go.ChangeShapes Go.WideShapes Go.ChangeAt Go.Deep Go.Joins
section
variable {H : Type} {enc : TypeId × Value -> H} {P : Program}
theorem kG {α : Type} {W : World} {held : Bool} {t e : TypeId} {fuel k : Nat} {v : Value} {y : DataW H × List MemPlace} {R : World -> List Value -> α -> Prop} (ht : P.underlying t = some (.slice e)) (hC : P.cellsOf e = k) (hk : 0 < k)
  (hR : ∀ (n : Nat) (cs : List Value) (z : DataW H × List MemPlace), DataW.trod enc P W 0 (fun _ => true) held n e cs = some z -> cs.length = k -> ∃ x, R W cs x)
  (h : DataW.trod enc P W 0 (fun _ => true) held fuel t [v] = some y) : ∃ a n c xs, v = .slice a n c /\ n <= maxLen /\ n <= c /\ Sl k R W a n xs := by
 obtain ⟨a, n, c, xs, hv, h1, h2⟩ := tm ht hC hk hR h
 refine ⟨a, n, c, xs, hv, h1, ?_, h2⟩
 rcases open_slice ht h with ⟨h0, _⟩ | ⟨b, len, cap, m, q, D, Pl, hcs, _, hl, _⟩
 ·simp only [List.cons.injEq, and_true] at h0
  rw [hv] at h0
  cases h0
  exact Nat.le_refl _
 ·simp only [List.cons.injEq, and_true] at hcs
  rw [hv] at hcs
  cases hcs
  exact hl
theorem ev {W : World} {held : Bool} {e : TypeId} (he : P.underlying e = some (.int .u8)) (n : Nat) (cs : List Value) (z : DataW H × List MemPlace) (h : DataW.trod enc P W 0 (fun _ => true) held n e cs = some z) : ∃ x, ai W cs x := by
 obtain ⟨i, h1, _, h2⟩ := DataW.trod_int he h
 obtain ⟨g1, g2⟩ := bounds_u8 h2
 refine ⟨UInt8.ofNat i.toNat, ?_⟩
 show cs = _
 rw [h1]
 congr 2
 rw [UInt8.toNat_ofNat']
 omega
end
section
variable {H : Type} {enc : TypeId × Value -> H}
theorem yX {W : World} {held : Bool} (n : Nat) (cs : List Value) (z : DataW H × List MemPlace) (h : DataW.trod enc Tryz.prog W 0 (fun _ => true) held n 48 cs = some z) : ∃ bs : List UInt8, bs.length = 32 /\ cs = af bs := by
 have hce : Tryz.prog.cellsOf 5 = 1 := by kernel_rfl
 have hct : Tryz.prog.cellsOf 48 = 32 := by kernel_rfl
 obtain ⟨xs, m, _, _, hl, hxl, hf⟩ := DataW.trod_array Tryz.underlying48 h
 rw [hce] at hf
 rw [hct] at hl
 have hb : ∀ i : Nat, ∃ b : UInt8, i < 32 -> cs[i]? = some (.int .u8 b.toNat) := fun i => by
  by_cases hi : i < 32
  ·have h1 := hf i hi
   rw [List.getElem?_eq_getElem (by omega)] at h1
   obtain ⟨b, hb⟩ := ev Tryz.underlying5 _ _ _ h1
   refine ⟨b, fun _ => ?_⟩
   have h2 : ((cs.drop (i * 1)).take 1)[0]? = some (.int .u8 b.toNat) := by rw [show (cs.drop (i * 1)).take 1 = _ from hb]; rfl
   simpa [List.getElem?_take, List.getElem?_drop] using h2
  ·exact ⟨0, fun q => absurd q hi⟩
 obtain ⟨g, hg⟩ := Classical.axiomOfChoice hb
 refine ⟨(List.range 32).map g, by simp, ?_⟩
 apply List.ext_getElem?
 intro i
 by_cases hi : i < 32
 ·rw [hg i hi]
  simp [af, hi]
 ·rw [List.getElem?_eq_none (by omega), List.getElem?_eq_none (by simp [af]; omega)]
theorem kH {W : World} {held : Bool} {fuel : Nat} {v : Value} {y : DataW H × List MemPlace} (h : DataW.trod enc Tryz.prog W 0 (fun _ => true) held fuel 40 [v] = some y) : ∃ a n c bs, v = .slice a n c /\ n <= maxLen /\ n <= c /\ Sl 1 ai W a n bs :=
 kG (R := ai) Tryz.underlying40 (show Tryz.prog.cellsOf 5 = 1 by kernel_rfl) (by omega) (fun n cs z hz _ => ev Tryz.underlying5 n cs z hz) h
theorem ny {n : Int} (h : (Lit.int .i64 n).wf = true) : bQ n := by
 have h' : -9223372036854775808 <= n /\ n <= 9223372036854775807 := by simpa [Lit.wf, IntKind.min, IntKind.max, IntKind.signed, IntKind.bits] using h
 exact h'
theorem wU {W : World} {held : Bool} (n : Nat) (cs : List Value) (z : DataW H × List MemPlace) (h : DataW.trod enc Tryz.prog W 0 (fun _ => true) held n 50 cs = some z) (hl : cs.length = 35) : ∃ x, aq W cs x := by
 obtain ⟨xs, m, _, _, _, hlen, hf⟩ := DataW.trod_struct Tryz.underlying50 h
 have f0 : DataW.trod enc Tryz.prog W 0 (fun _ => true) held m 3 ((cs.drop 0).take (Tryz.prog.cellsOf 3)) = xs[0]? := hf 0 _ rfl
 have f1 : DataW.trod enc Tryz.prog W 0 (fun _ => true) held m 3 ((cs.drop 1).take (Tryz.prog.cellsOf 3)) = xs[1]? := hf 1 _ rfl
 have f2 : DataW.trod enc Tryz.prog W 0 (fun _ => true) held m 48 ((cs.drop 2).take (Tryz.prog.cellsOf 48)) = xs[2]? := hf 2 _ rfl
 have f3 : DataW.trod enc Tryz.prog W 0 (fun _ => true) held m 40 ((cs.drop 34).take (Tryz.prog.cellsOf 40)) = xs[3]? := hf 3 _ rfl
 have k3 : Tryz.prog.cellsOf 3 = 1 := by kernel_rfl
 have k35 : Tryz.prog.cellsOf 48 = 32 := by kernel_rfl
 have k23 : Tryz.prog.cellsOf 40 = 1 := by kernel_rfl
 rw [k3] at f0 f1
 rw [k35] at f2
 rw [k23] at f3
 have e : ∀ i, i < 4 -> ∃ y, xs[i]? = some y := fun i hi => ⟨_, List.getElem?_eq_getElem (by rw [hlen]; exact hi)⟩
 obtain ⟨y0, e0⟩ := e 0 (by omega)
 obtain ⟨y1, e1⟩ := e 1 (by omega)
 obtain ⟨y2, e2⟩ := e 2 (by omega)
 obtain ⟨y3, e3⟩ := e 3 (by omega)
 rw [e0] at f0
 rw [e1] at f1
 rw [e2] at f2
 rw [e3] at f3
 obtain ⟨i, hi, _, wi⟩ := DataW.trod_int Tryz.underlying3 f0
 obtain ⟨j, hj, _, wj⟩ := DataW.trod_int Tryz.underlying3 f1
 obtain ⟨bs, hbs, hb⟩ := yX _ _ _ f2
 have hd34 : (cs.drop 34).length = 1 := by rw [List.length_drop, hl]
 obtain ⟨v, hv⟩ : ∃ v, cs.drop 34 = [v] := by
  match hq : cs.drop 34, hd34 with
  | [v], _ => exact ⟨v, rfl⟩
 rw [hv, List.take_of_length_le (by simp)] at f3
 obtain ⟨a, n', c, ds, rfl, h1, h2, h3⟩ := kH f3
 refine ⟨⟨i, j, bs, ds⟩, a, n', c, ?_, hbs, ny wi, ny wj, h2, h3⟩
 have s0 : cs = cs.take 1 ++ ((cs.drop 1).take 1 ++ ((cs.drop 2).take 32 ++ cs.drop 34)) := by
  have q1 := (List.take_append_drop 1 cs).symm
  have q2 := (List.take_append_drop 1 (cs.drop 1)).symm
  have q3 := (List.take_append_drop 32 (cs.drop 2)).symm
  rw [List.drop_drop] at q2 q3
  rw [<- q3, <- q2, <- q1]
 rw [s0, hv, hb]
 simp only [List.drop_zero] at hi
 rw [hi, hj]
 rfl
theorem uF {W : World} {b0 : Nat} {v : Value} {d : DataW H} {p : List MemPlace} (hv : Value.okWide Tryz.prog W .any b0 30 v) (h : DataW.Trod enc Tryz.prog W 0 (fun _ => true) true 30 v d p) :
  ∃ a n c l, v = .slice a n c /\ n <= maxLen /\ n <= c /\ Sl 35 aq W a n l := by
 obtain ⟨a, n, c, rfl⟩ := okWide_slice Tryz.underlying30 hv
 obtain ⟨fuel, hf⟩ := h
 exact kG (v := .slice a n c) (R := aq) Tryz.underlying30 (show Tryz.prog.cellsOf 50 = 35 by kernel_rfl) (by omega) (fun n cs z hz hl => wU n cs z hz hl) hf
theorem sP {W : World} {b0 : Nat} {v : Value} {d : DataW H} {p : List MemPlace} (hv : Value.okWide Tryz.prog W .any b0 40 v) (h : DataW.Trod enc Tryz.prog W 0 (fun _ => true) true 40 v d p) :
  ∃ a n c bs, v = .slice a n c /\ n <= maxLen /\ n <= c /\ Sl 1 ai W a n bs := by
 obtain ⟨a, n, c, rfl⟩ := okWide_slice Tryz.underlying40 hv
 obtain ⟨fuel, hf⟩ := h
 exact kH hf
theorem wV {W : World} {b0 : Nat} {v : Value} {d : DataW H} {p : List MemPlace} (hv : Value.okWide Tryz.prog W .any b0 3 v) (h : DataW.Trod enc Tryz.prog W 0 (fun _ => true) true 3 v d p) : ∃ n, v = .int .i64 n /\ bQ n := by
 obtain ⟨n, h1, _, _, h4⟩ := open_int Tryz.underlying3 hv h
 exact ⟨n, h1, ny h4⟩
end
abbrev uG : List (String × DataW Unit) := [("franking/digest.start", Rows.laid_franking_digest_start), ("franking/digest.numbers", Rows.laid_franking_digest_numbers)]
def qG : List Int := (dv bI).map fun x => (wv x : Int)
def oI : List Int := Kl.map fun x => (wv x : Int)
theorem wW : qG.length = 8 := rfl
theorem uH : oI.length = 64 := by decide +kernel
theorem yY : ∀ i, i < 8 -> qG.getD i 0 = wv ((dv bI).getD i 0) := by decide +kernel
theorem wX : ∀ i, i < 64 -> oI.getD i 0 = wv (Kl.getD i 0) := by decide +kernel
theorem uI : (Rows.laid_franking_digest_start : DataW Unit) = Lib.tabData .u32 qG := by kernel_rfl
theorem rH : (Rows.laid_franking_digest_numbers : DataW Unit) = Lib.tabData .u32 oI := by kernel_rfl
theorem rI {W : World} (h : laidMetH Tryz.prog uG W) : dV W := by
 rw [MakeChecks.laidMetH_plain _ _ _ (by kernel_rfl)] at h
 have g0 : Tryz.prog.globalNamed "franking/digest.start" = some 0 := by kernel_rfl
 have g1 : Tryz.prog.globalNamed "franking/digest.numbers" = some 1 := by kernel_rfl
 have t0 := Lib.tabIs_of_head (k := .u32) (zs := qG) (rest := [("franking/digest.numbers", Rows.laid_franking_digest_numbers)]) (t := 149) (e := 117) g0 (by kernel_rfl) Tryz.underlying149 Tryz.underlying117 (by kernel_rfl) (by kernel_rfl) (by rw [<- uI]; exact h)
 have t1 := Lib.tabIs_of_head (k := .u32) (zs := oI) (rest := []) (t := 171) (e := 117) g1 (by kernel_rfl) Tryz.underlying171 Tryz.underlying117 (by kernel_rfl) (by kernel_rfl) (by rw [<- rH]; exact laidMet.filter (fun x => x.1 == "franking/digest.numbers") h)
 refine ⟨fun i u hu => ?_, fun t ht => ?_⟩
 ·have hi : i < 8 := (List.getElem?_eq_some_iff.1 hu).1
  rw [t0.cell g0 i (by rw [wW]; exact hi), <- hu, ph _ hi, yY i hi]
 ·rw [t1.cell g1 t (by rw [uH]; exact ht), wX t ht]
end Go.Proofs.YtmflnpdmlfmcpaaGreatDoor.Dr
