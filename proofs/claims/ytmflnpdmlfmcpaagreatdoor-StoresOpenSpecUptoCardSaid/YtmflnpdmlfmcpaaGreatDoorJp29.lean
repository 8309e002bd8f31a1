/- Joined texts. -/
import Derived.Test.YtmflnpdmlfmcpaaGreatDoorJp26
import Derived.Test.YtmflnpdmlfmcpaaGreatDoorJp28
set_option maxRecDepth 100000
set_option maxHeartbeats 8000000
namespace Go.Proofs.YtmflnpdmlfmcpaaGreatDoor.Dr
open Go.RowKit
theorem xp {o:Oper}{act:Act}{W:World}(p q:Operand)(ho:o.op=.binOp .lss 3 p q 3)(a b:Int)(c:Bool)(hp:act.eval p=.int .i64 a)(hq:act.eval q=.int .i64 b)(hc:decide (a<b)=c):(execOp act.eval o).run Tryz.prog W=.ok (.value (.bool c)) W:=by
 subst hc
 unfold execOp
 simp only[ho,hp,hq]
 kernel_rfl
theorem xq {o:Oper}{act:Act}{W:World}(p q:Operand)(ho:o.op=.binOp .gtr 3 p q 3)(a b:Int)(c:Bool)(hp:act.eval p=.int .i64 a)(hq:act.eval q=.int .i64 b)(hc:decide (b<a)=c):(execOp act.eval o).run Tryz.prog W=.ok (.value (.bool c)) W:=by
 subst hc
 unfold execOp
 simp only[ho,hp,hq]
 kernel_rfl
theorem xr {o:Oper}{act:Act}{W:World}(p q:Operand)(ho:o.op=.binOp .geq 3 p q 3)(a b:Int)(c:Bool)(hp:act.eval p=.int .i64 a)(hq:act.eval q=.int .i64 b)(hc:decide (b<=a)=c):(execOp act.eval o).run Tryz.prog W=.ok (.value (.bool c)) W:=by
 subst hc
 unfold execOp
 simp only[ho,hp,hq]
 kernel_rfl
theorem oK {o:Oper}{act:Act}{W:World}(p q:Operand)(ho:o.op=.binOp .neq 3 p q 3)(a b:Int)(c:Bool)(hp:act.eval p=.int .i64 a)(hq:act.eval q=.int .i64 b)(hc:(!(a == b))=c):(execOp act.eval o).run Tryz.prog W=.ok (.value (.bool c)) W:=by
 subst hc
 unfold execOp
 simp only[ho,hp,hq]
 kernel_rfl
theorem tK {o:Oper}{act:Act}{W:World}(p q:Operand)(ho:o.op=.binOp .neq 48 p q 48)(x y:List UInt8)(c:Bool)(hp:act.eval p=br x)(hq:act.eval q=br y)(hx:x.length=32)(hy:y.length=32)(hc:(!(x == y))=c):(execOp act.eval o).run Tryz.prog W=.ok (.value (.bool c)) W:=by
 subst hc
 exact ot p q ho x y hp hq hx hy
theorem A3 {o:Oper}{act:Act}{W:World}(p q:Operand)(ho:o.op=.indexAddr 30 p q)(b off n c:Nat)(hp:act.eval p=.slice (some ⟨b,off,none⟩) n c)(hq:act.eval q=.int .i64 0)(hk:0<n) :
  (execOp act.eval o).run Tryz.prog W=.ok (.value (.pointer (some ⟨b,off,none⟩))) W:=by
 have h1:(0:Int)<(n:Int):=om
 unfold execOp
 simp only[ho,hp,hq]
 go_simp
theorem zm {o:Oper}{act:Act}{W:World}(p q:Operand)(ho:o.op=.slice 30 p none (some q) none)(b off n c k:Nat)(hp:act.eval p=.slice (some ⟨b,off,none⟩) n c)(hq:act.eval q=.int .i64 k)(hk:k<=c) :
  (execOp act.eval o).run Tryz.prog W=.ok (.value (.slice (some ⟨b,off,none⟩) k c)) W:=by
 have h1:(0:Int)<=(k:Int):=om
 have h2:(k:Int)<=(c:Int):=om
 unfold execOp
 simp only[ho,hp,hq,Option.map_some,Option.map_none]
 go_simp
theorem tL (a:Option Addr)(n c:Nat)(l:List ar)(w:World)(hn:n<=1024)(hnc:n<=c)(h:Sl 35 aq w a n l)(hd:∀x ∈ l,x.data.length<=100000) :
  Calls Tryz.prog 65 #[.slice a n c] w fun e w'=>e=.returned (.int .i64 (bz l))/\Below w.heap.size w w':=by
 obtain⟨r,hr⟩:=zg (bz l)
 rw[<-hr]
 have HR:=aa hr
 have H:=aa h
 have HDL:=aa hd
 have HL:=aa h.len
 clear h hr hd
 have k4:¬(1024:Int)<(n:Int):=om
 go_enter Tryz.func65,Tryz.ntmps65
 go_wp2_with fail
 clear k4
 go_loopw [3] (fun s3 wr=>∃k:Nat,k<=n/\s3=.int .i64 k/\(∀j,j<k->fl l j=true)/\Below w.heap.size w wr) (fun s3 _=>n-(intOf s3).toNat)
 case atStart=>exact⟨0,Nat.zero_le _,rfl,fun j hj=>absurd hj (Nat.not_lt_zero _),Below.refl _ _⟩
 case round =>
  obtain⟨k,hk,rfl,hs,hB⟩:=hrel
  have HS:=aa hs
  have hsz:=hB.size
  clear hs
  by_cases hlt:k<n
  ·obtain⟨x,b,off,da,dn,dc,hx,rfl,hp,hdc,hsd,hrx⟩:=ek H.out hlt
   obtain⟨y,b',off',ea,en,ec,hy,hbo,hpy,hec,hse,hry⟩:=ek H.out (show 0<n by omega)
   obtain⟨rfl,rfl⟩:b=b'/\off=off':=by cases hbo;exact⟨rfl,rfl⟩
   have hdn:x.data.length=dn:=hsd.len
   have hok:fl l k=(decide (x.node=y.node) && decide (0<=x.node) && decide (x.node<24) && decide (x.no=k) && decide (x.data.length<=65536) && decide (x.prev=bR (l.take k))):=by
    unfold fl;rw[hx,hy]
   rw[hdn]at hok
   have OK:=aa hok
   have cy0:w.cell? ⟨b,off,none⟩=some (.int .i64 y.node):=by
    have:=hry 0 _ (dj y ea en ec)
    simpa using this
   have CY0:=aa cy0
   have HRX:Hid (wr.rangeAt b (off+k*35) (ah x da dn dc)):=aa (bS hB hrx)
   have HP:=aa hp
   have k0:(0:Int)<=(k:Int):=om
   have k1:(k:Int)<(n:Int):=om
   have hsk:Sl 35 aq w (some ⟨b,off,none⟩) k (l.take k):=tv H.out om
   have HSK:=aa hsk
   have HDK:Hid (∀x ∈ l.take k,x.data.length<=100000):=fun x hx=>HDL.out x (List.mem_of_mem_take hx)
   have HB:=aa hB
   clear hsd hrx hse hry hx hy hok hdn hbo cy0 hsk hB
   go_upto_region 7 with (first|(refine wpList_load_mid rfl 50 (.tmp 16) rfl b (off+k*35) ?e1 (ah x da dn dc) _ HRX.out Tryz.underlying50 rfl (gL HP.out da dn dc) ?_;(case e1=>rfl))|(refine wpList_store_row rfl 50 (.tmp 4) (.tmp 17) rfl wr.heap.size (ah x da dn dc).toArray ?e2 ?e3 50 zH (heap_alloc_new wr _) ?e4 ?e5 (bM x da dn dc) ?_;(case e2=>rfl);(case e3=>rfl);(case e4=>exact gL HP.out da dn dc);(case e5=>exact(bh HP.out da dn dc).symm)))
   have hx2:ac ((wr.alloc (.cells zH 50)).setRow wr.heap.size (ah x da dn dc).toArray) wr.heap.size 50 (ah x da dn dc):=setRow_heap _ _ _ _ _ _ (heap_alloc_new wr _)
   have hB2:Below wr.heap.size wr ((wr.alloc (.cells zH 50)).setRow wr.heap.size (ah x da dn dc).toArray):=bf _ _ _
   have hb2:Below w.heap.size w ((wr.alloc (.cells zH 50)).setRow wr.heap.size (ah x da dn dc).toArray):=HB.out.trans (hB2.mono hsz)
   obtain⟨X,hX⟩:=zg wr.heap.size
   clear hB2
   rw[<-hX]at hx2 hb2 ⊢
   generalize (wr.alloc (.cells zH 50)).setRow X (ah x da dn dc).toArray=w2 at *
   have HX2:=aa hx2
   have HB2:=aa hb2
   clear hX hx2 hb2
   obtain⟨bad,hbad⟩:=zg (!fl l k)
   have HBAD:=aa hbad
   clear hbad
   simp only[Act.put]
   go_cut [55] (fun s55 wx=>s55=.bool bad/\Below w.heap.size w wx)
   case first =>
    refine qx kr kr ?_
    refine cn (.pointer (some ⟨X,0,none⟩)) ?_
    simp only[Act.put,zp]
    refine gr (.int .i64 x.node) (fun z=>fa (.tmp 18) kr ⟨X,0,none⟩ kr (ag z.below ((ac.cell HX2.out 0).trans (dj x da dn dc)))) ?_
    simp only[Act.put,zp]
    by_cases d1:x.node<0
    ·skip
     refine gr (.bool true) (fun z=>xp (.tmp 19) (.const (.int .i64 0)) kr (x.node) (0) true kr kr (decide_eq_true d1)) ?_
     simp only[Act.put,zp]
     refine cn (.bool true) ?_
     simp only[Act.put,zp]
     refine bw ?_
     simp only[Act.put,zp]
     refine bw ?_
     simp only[Act.put,zp]
     refine bw ?_
     simp only[Act.put,zp]
     refine cn (.bool true) ?_
     simp only[Act.put,zp]
     refine cn (.bool true) ?_
     simp only[Act.put,zp]
     refine bw ?_
     simp only[Act.put,zp]
     refine bw ?_
     simp only[Act.put,zp]
     refine bw ?_
     simp only[Act.put,zp]
     refine bw ?_
     simp only[Act.put,zp]
     refine bw ?_
     simp only[Act.put,zp]
     refine bw ?_
     simp only[Act.put,zp]
     refine bw ?_
     simp only[Act.put,zp]
     refine cn (.bool true) ?_
     simp only[Act.put,zp]
     refine cn (.bool true) ?_
     simp only[Act.put,zp]
     refine bw ?_
     simp only[Act.put,zp]
     refine bw ?_
     simp only[Act.put,zp]
     refine bw ?_
     simp only[Act.put,zp]
     refine bw ?_
     simp only[Act.put,zp]
     refine cn (.bool true) ?_
     simp only[Act.put,zp]
     refine cn (.bool true) ?_
     simp only[Act.put,zp]
     refine bw ?_
     simp only[Act.put,zp]
     refine bw ?_
     simp only[Act.put,zp]
     refine bw ?_
     simp only[Act.put,zp]
     refine bw ?_
     simp only[Act.put,zp]
     refine cn (.bool true) ?_
     simp only[Act.put,zp]
     refine cn (.bool true) ?_
     simp only[Act.put,zp]
     refine bw ?_
     simp only[Act.put,zp]
     refine bw ?_
     simp only[Act.put,zp]
     refine bw ?_
     simp only[Act.put,zp]
     refine bw ?_
     simp only[Act.put,zp]
     refine bw ?_
     simp only[Act.put,zp]
     refine bw ?_
     simp only[Act.put,zp]
     refine bw ?_
     simp only[Act.put,zp]
     refine cn (.bool true) ?_
     simp only[Act.put,zp]
     refine io ?_
     rintro _ ⟨z,rfl⟩
     go_wp2_with fail
     go_meet
     exact⟨by rw[HBAD.out,OK.out,show decide (0<=x.node)=false from decide_eq_false om];simp,HB2.out.trans (z.below.mono HB2.out.size)⟩
    refine gr (.bool false) (fun z=>xp (.tmp 19) (.const (.int .i64 0)) kr (x.node) (0) false kr kr (decide_eq_false d1)) ?_
    simp only[Act.put,zp]
    refine cn (.bool false) ?_
    simp only[Act.put,zp]
    refine cn (.pointer (some ⟨X,0,none⟩)) ?_
    simp only[Act.put,zp]
    refine gr (.int .i64 x.node) (fun z=>fa (.tmp 22) kr ⟨X,0,none⟩ kr (ag z.below ((ac.cell HX2.out 0).trans (dj x da dn dc)))) ?_
    simp only[Act.put,zp]
    by_cases d2:(24:Int)<=x.node
    ·skip
     refine gr (.bool true) (fun z=>xr (.tmp 23) (.const (.int .i64 24)) kr (x.node) (24) true kr kr (decide_eq_true d2)) ?_
     simp only[Act.put,zp]
     refine cn (.bool true) ?_
     simp only[Act.put,zp]
     refine cn (.bool true) ?_
     simp only[Act.put,zp]
     refine bw ?_
     simp only[Act.put,zp]
     refine bw ?_
     simp only[Act.put,zp]
     refine bw ?_
     simp only[Act.put,zp]
     refine bw ?_
     simp only[Act.put,zp]
     refine bw ?_
     simp only[Act.put,zp]
     refine bw ?_
     simp only[Act.put,zp]
     refine bw ?_
     simp only[Act.put,zp]
     refine cn (.bool true) ?_
     simp only[Act.put,zp]
     refine cn (.bool true) ?_
     simp only[Act.put,zp]
     refine bw ?_
     simp only[Act.put,zp]
     refine bw ?_
     simp only[Act.put,zp]
     refine bw ?_
     simp only[Act.put,zp]
     refine bw ?_
     simp only[Act.put,zp]
     refine cn (.bool true) ?_
     simp only[Act.put,zp]
     refine cn (.bool true) ?_
     simp only[Act.put,zp]
     refine bw ?_
     simp only[Act.put,zp]
     refine bw ?_
     simp only[Act.put,zp]
     refine bw ?_
     simp only[Act.put,zp]
     refine bw ?_
     simp only[Act.put,zp]
     refine cn (.bool true) ?_
     simp only[Act.put,zp]
     refine cn (.bool true) ?_
     simp only[Act.put,zp]
     refine bw ?_
     simp only[Act.put,zp]
     refine bw ?_
     simp only[Act.put,zp]
     refine bw ?_
     simp only[Act.put,zp]
     refine bw ?_
     simp only[Act.put,zp]
     refine bw ?_
     simp only[Act.put,zp]
     refine bw ?_
     simp only[Act.put,zp]
     refine bw ?_
     simp only[Act.put,zp]
     refine cn (.bool true) ?_
     simp only[Act.put,zp]
     refine io ?_
     rintro _ ⟨z,rfl⟩
     go_wp2_with fail
     go_meet
     exact⟨by rw[HBAD.out,OK.out,show decide (x.node<24)=false from decide_eq_false om];simp,HB2.out.trans (z.below.mono HB2.out.size)⟩
    refine gr (.bool false) (fun z=>xr (.tmp 23) (.const (.int .i64 24)) kr (x.node) (24) false kr kr (decide_eq_false d2)) ?_
    simp only[Act.put,zp]
    refine cn (.bool false) ?_
    simp only[Act.put,zp]
    refine cn (.bool false) ?_
    simp only[Act.put,zp]
    refine cn (.pointer (some ⟨X,0,none⟩)) ?_
    simp only[Act.put,zp]
    refine gr (.int .i64 x.node) (fun z=>fa (.tmp 27) kr ⟨X,0,none⟩ kr (ag z.below ((ac.cell HX2.out 0).trans (dj x da dn dc)))) ?_
    simp only[Act.put,zp]
    refine cn (.slice (some ⟨b,off,none⟩) n c) ?_
    simp only[Act.put,zp]
    refine gr (.pointer (some ⟨b,off,none⟩)) (fun z=>A3 (.tmp 29) (.const (.int .i64 0)) kr b off n c kr kr om) ?_
    simp only[Act.put,zp]
    refine cn (.pointer (some ⟨b,off,none⟩)) ?_
    simp only[Act.put,zp]
    refine gr (.int .i64 y.node) (fun z=>fa (.tmp 31) kr ⟨b,off,none⟩ kr (ag (HB2.out.trans (z.below.mono HB2.out.size)) CY0.out)) ?_
    simp only[Act.put,zp]
    by_cases d3:x.node=y.node
    case neg =>
     refine gr (.bool true) (fun z=>oK (.tmp 28) (.tmp 32) kr (x.node) (y.node) true kr kr (by simpa using d3)) ?_
     simp only[Act.put,zp]
     refine cn (.bool true) ?_
     simp only[Act.put,zp]
     refine cn (.bool true) ?_
     simp only[Act.put,zp]
     refine bw ?_
     simp only[Act.put,zp]
     refine bw ?_
     simp only[Act.put,zp]
     refine bw ?_
     simp only[Act.put,zp]
     refine bw ?_
     simp only[Act.put,zp]
     refine cn (.bool true) ?_
     simp only[Act.put,zp]
     refine cn (.bool true) ?_
     simp only[Act.put,zp]
     refine bw ?_
     simp only[Act.put,zp]
     refine bw ?_
     simp only[Act.put,zp]
     refine bw ?_
     simp only[Act.put,zp]
     refine bw ?_
     simp only[Act.put,zp]
     refine cn (.bool true) ?_
     simp only[Act.put,zp]
     refine cn (.bool true) ?_
     simp only[Act.put,zp]
     refine bw ?_
     simp only[Act.put,zp]
     refine bw ?_
     simp only[Act.put,zp]
     refine bw ?_
     simp only[Act.put,zp]
     refine bw ?_
     simp only[Act.put,zp]
     refine bw ?_
     simp only[Act.put,zp]
     refine bw ?_
     simp only[Act.put,zp]
     refine bw ?_
     simp only[Act.put,zp]
     refine cn (.bool true) ?_
     simp only[Act.put,zp]
     refine io ?_
     rintro _ ⟨z,rfl⟩
     go_wp2_with fail
     go_meet
     exact⟨by rw[HBAD.out,OK.out,decide_eq_false d3];simp,HB2.out.trans (z.below.mono HB2.out.size)⟩
    refine gr (.bool false) (fun z=>oK (.tmp 28) (.tmp 32) kr (x.node) (y.node) false kr kr (by simpa using d3)) ?_
    simp only[Act.put,zp]
    refine cn (.bool false) ?_
    simp only[Act.put,zp]
    refine cn (.bool false) ?_
    simp only[Act.put,zp]
    refine cn (.pointer (some ⟨X,1,none⟩)) ?_
    simp only[Act.put,zp]
    refine gr (.int .i64 x.no) (fun z=>fa (.tmp 36) kr ⟨X,1,none⟩ kr (ag z.below ((ac.cell HX2.out 1).trans (fi x da dn dc)))) ?_
    simp only[Act.put,zp]
    refine cn (.int .i64 k) ?_
    simp only[Act.put,zp]
    by_cases d4:x.no=(k:Int)
    case neg =>
     refine gr (.bool true) (fun z=>oK (.tmp 37) (.tmp 38) kr (x.no) (k) true kr kr (by simpa using d4)) ?_
     simp only[Act.put,zp]
     refine cn (.bool true) ?_
     simp only[Act.put,zp]
     refine cn (.bool true) ?_
     simp only[Act.put,zp]
     refine bw ?_
     simp only[Act.put,zp]
     refine bw ?_
     simp only[Act.put,zp]
     refine bw ?_
     simp only[Act.put,zp]
     refine bw ?_
     simp only[Act.put,zp]
     refine cn (.bool true) ?_
     simp only[Act.put,zp]
     refine cn (.bool true) ?_
     simp only[Act.put,zp]
     refine bw ?_
     simp only[Act.put,zp]
     refine bw ?_
     simp only[Act.put,zp]
     refine bw ?_
     simp only[Act.put,zp]
     refine bw ?_
     simp only[Act.put,zp]
     refine bw ?_
     simp only[Act.put,zp]
     refine bw ?_
     simp only[Act.put,zp]
     refine bw ?_
     simp only[Act.put,zp]
     refine cn (.bool true) ?_
     simp only[Act.put,zp]
     refine io ?_
     rintro _ ⟨z,rfl⟩
     go_wp2_with fail
     go_meet
     exact⟨by rw[HBAD.out,OK.out,decide_eq_false d4];simp,HB2.out.trans (z.below.mono HB2.out.size)⟩
    refine gr (.bool false) (fun z=>oK (.tmp 37) (.tmp 38) kr (x.no) (k) false kr kr (by simpa using d4)) ?_
    simp only[Act.put,zp]
    refine cn (.bool false) ?_
    simp only[Act.put,zp]
    refine cn (.bool false) ?_
    simp only[Act.put,zp]
    refine cn (.pointer (some ⟨X,34,none⟩)) ?_
    simp only[Act.put,zp]
    refine gr (.slice da dn dc) (fun z=>mT (.tmp 42) kr ⟨X,34,none⟩ kr (ag z.below ((ac.cell HX2.out 34).trans (em HP.out da dn dc)))) ?_
    simp only[Act.put,zp]
    refine cn (.int .i64 dn) ?_
    simp only[Act.put,zp]
    by_cases d5:(65536:Int)<(dn:Int)
    ·skip
     refine gr (.bool true) (fun z=>xq (.tmp 44) (.const (.int .i64 65536)) kr (dn) (65536) true kr kr (decide_eq_true d5)) ?_
     simp only[Act.put,zp]
     refine cn (.bool true) ?_
     simp only[Act.put,zp]
     refine cn (.bool true) ?_
     simp only[Act.put,zp]
     refine bw ?_
     simp only[Act.put,zp]
     refine bw ?_
     simp only[Act.put,zp]
     refine bw ?_
     simp only[Act.put,zp]
     refine bw ?_
     simp only[Act.put,zp]
     refine bw ?_
     simp only[Act.put,zp]
     refine bw ?_
     simp only[Act.put,zp]
     refine bw ?_
     simp only[Act.put,zp]
     refine cn (.bool true) ?_
     simp only[Act.put,zp]
     refine io ?_
     rintro _ ⟨z,rfl⟩
     go_wp2_with fail
     go_meet
     exact⟨by rw[HBAD.out,OK.out,show decide (dn<=65536)=false from decide_eq_false om];simp,HB2.out.trans (z.below.mono HB2.out.size)⟩
    refine gr (.bool false) (fun z=>xq (.tmp 44) (.const (.int .i64 65536)) kr (dn) (65536) false kr kr (decide_eq_false d5)) ?_
    simp only[Act.put,zp]
    refine cn (.bool false) ?_
    simp only[Act.put,zp]
    refine cn (.bool false) ?_
    simp only[Act.put,zp]
    refine cn (.pointer (some ⟨X,2,none⟩)) ?_
    simp only[Act.put,zp]
    refine gr (br x.prev) (fun z=>aH 48 (.tmp 48) kr X 2 kr (af x.prev) _ (bS z.below (dE HX2.out)) Tryz.underlying48 rfl (by rw[bJ,HP.out];exact ey)) ?_
    simp only[Act.put,zp]
    refine cn (.slice (some ⟨b,off,none⟩) n c) ?_
    simp only[Act.put,zp]
    refine cn (.int .i64 k) ?_
    simp only[Act.put,zp]
    refine gr (.slice (some ⟨b,off,none⟩) k c) (fun z=>zm (.tmp 50) (.tmp 51) kr b off n c k kr kr om) ?_
    simp only[Act.put,zp]
    refine yQ (br (bR (l.take k))) 75 #[.slice (some ⟨b,off,none⟩) k c] kr (fun _=>by kernel_rfl) (fun z=>rL (some ⟨b,off,none⟩) k c (l.take k) z.wd om (HSK.out.below aq.keeps (HB2.out.trans (z.below.mono HB2.out.size))) HDK.out) ?_
    simp only[Act.put,zp]
    by_cases d6:x.prev=bR (l.take k)
    case neg =>
     refine gr (.bool true) (fun z=>tK (.tmp 49) (.tmp 53) kr x.prev (bR (l.take k)) true kr kr HP.out (dI _) (by simpa using d6)) ?_
     simp only[Act.put,zp]
     refine cn (.bool true) ?_
     simp only[Act.put,zp]
     refine io ?_
     rintro _ ⟨z,rfl⟩
     go_wp2_with fail
     go_meet
     exact⟨by rw[HBAD.out,OK.out,decide_eq_false d6];simp,HB2.out.trans (z.below.mono HB2.out.size)⟩
    refine gr (.bool false) (fun z=>tK (.tmp 49) (.tmp 53) kr x.prev (bR (l.take k)) false kr kr HP.out (dI _) (by simpa using d6)) ?_
    simp only[Act.put,zp]
    refine cn (.bool false) ?_
    simp only[Act.put,zp]
    refine io ?_
    rintro _ ⟨z,rfl⟩
    go_wp2_with fail
    go_meet
    exact⟨by rw[HBAD.out,OK.out,decide_eq_true d3,decide_eq_true d4,decide_eq_true d6,show decide (0<=x.node)=true from decide_eq_true om,show decide (x.node<24)=true from decide_eq_true om,show decide (dn<=65536)=true from decide_eq_true om];simp,HB2.out.trans (z.below.mono HB2.out.size)⟩
   case rest =>
    obtain⟨rfl,hB3⟩:=hcut
    cases bad
    ·have hok:fl l k=true:=by have:=HBAD.out;simpa using this.symm
     go_wp2
     go_roundw
     case rel=>exact⟨k+1,om,by go_num,fun j hj=>by
      rcases Nat.lt_or_ge j k with h1|h1
      ·exact HS.out j h1
      ·obtain rfl:j=k:=om
       exact hok,hB3⟩
     case measure=>simp[intOf];omega
    ·have hok:fl l k=false:=by have:=HBAD.out;simpa using this.symm
     have hd:r=80:=by
      rw[HR.out]
      unfold bz
      rw[HL.out,if_neg om]
      have:(List.range n).all (fl l)=false:=List.all_eq_false.2 ⟨k,List.mem_range.2 hlt,by rw[hok];simp⟩
      rw[this];rfl
     have HD:=aa hd
     clear hd hok
     go_wp2
     go_ret
     exact⟨by rw[HD.out];rfl,hB3⟩
  ·obtain rfl:k=n:=om
   have hd:r=0:=by
    rw[HR.out]
    unfold bz
    rw[HL.out,if_neg om,if_pos (List.all_eq_true.2 (fun j hj=>HS.out j (List.mem_range.1 hj)))]
   have HD:=aa hd
   clear hd
   go_wp2
   go_ret
   exact⟨by rw[HD.out];rfl,hB⟩
end Go.Proofs.YtmflnpdmlfmcpaaGreatDoor.Dr
