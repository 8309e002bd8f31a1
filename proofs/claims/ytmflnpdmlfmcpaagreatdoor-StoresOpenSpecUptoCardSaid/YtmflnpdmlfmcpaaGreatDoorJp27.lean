/- Joined texts. -/
import Derived.Test.YtmflnpdmlfmcpaaGreatDoorJp20
import Derived.Test.YtmflnpdmlfmcpaaGreatDoorJp21
import Derived.Test.YtmflnpdmlfmcpaaGreatDoorJp26
set_option maxRecDepth 100000
set_option maxHeartbeats 16000000
namespace Go.Proofs.YtmflnpdmlfmcpaaGreatDoor.Dr
open Go.RowKit
theorem di {fn:Func}{p u:Tmp}{ty:TypeId}(h:fn.results=#[.cell p ty,.tmp u])(tmps:Array Value)(w:World)(g:Nat)(t:TypeId)(cs:Array Value)(fr:Nat × Nat)(d:TypeDesc)(hd:d.isRow=true)
  (hp:tmps.getD p undef=.pointer (some ⟨g,0,none⟩)) (hg:w.heap[g]? = some (.cells cs t fr))
  (hu:Tryz.prog.underlying ty=some d) (hi:(Tryz.prog.info? ty).map (·.size)=some cs.size) :
  (results fn tmps).run Tryz.prog w=.ok (.tuple #[.agg cs,tmps.getD u undef]) w:=by
 rw[results_cell_tmp h,hp]
 have hl:(loadVar ty ⟨g,0,none⟩).run Tryz.prog w=.ok (.agg cs) w:=by
  cases d with
  | struct f=>exact run_loadVar_row w g t ty cs fr _ hg hu rfl hi
  | array a b=>exact run_loadVar_row w g t ty cs fr _ hg hu rfl hi
  | _=>simp[TypeDesc.isRow]at hd
 simp[asAddr,hl]
theorem tJ {o:Oper}{act:Act}{W:World}(p q:Operand)(ho:o.op=.binOp .neq 3 p q 3)(x y:Nat)(b:Bool)(hb:decide (x≠y)=b)(hp:act.eval p=.int .i64 (x:Int))(hq:act.eval q=.int .i64 (y:Int)):(execOp act.eval o).run Tryz.prog W=.ok (.value (.bool b)) W:=by
 have h3:((x:Int) != (y:Int))=b:=by rw[<-hb,Bool.eq_iff_iff,decide_eq_true_eq,bne_iff_ne];omega
 unfold execOp
 simp only[ho,hp,hq]
 go_simp
 try exact h3
theorem uO {o:Oper}{a:Act}{W:World}(x y:Operand)(ho:o.op=.binOp .neq 9 x y 9)(p:ByteArray)(hx:a.eval x=.string p)(hy:a.eval y=.string p):(execOp a.eval o).run Tryz.prog W=.ok (.value (.bool false)) W:=by
 unfold execOp
 simp only[ho,hx,hy]
 go_simp
theorem iH {o:Oper}{a:Act}{W:World}(x:Operand)(ho:o.op=.load 88 x)(X:Nat)(hx:a.eval x=.pointer (some ⟨X,0,none⟩)){v0 v1 v2 v3:Value}(hc:ac W X 88 [v0,v1,v2,v3]):(execOp a.eval o).run Tryz.prog W=.ok (.value (.agg #[v0,v1,v2,v3])) W:=by
 obtain⟨_,f0,f1,f2,f3,_,_⟩:=aF (Below.refl _ W) hc
 unfold execOp
 simp only[ho,hx]
 go_simp
def AY (B:Nat)(b:List UInt8)(e:Ending)(w:World):Prop:=∃x0 x1 x2 x3,(x0.oneCell'=true/\x1.oneCell'=true/\x2.oneCell'=true/\x3.oneCell'=true) /\
 ((∃v,ct b=some v/\e=.returned (.tuple #[.agg #[x0,x1,x2,x3],.int .i64 0])/\cu (fun q=>B<=q) 16 w [x0,x1,x2,x3] v)\/(ct b=none/\e=.returned (.tuple #[.agg #[x0,x1,x2,x3],.int .i64 10])))
theorem zf (a:Option Addr)(n c:Nat)(b:List UInt8)(w:World)(hl:b.length<=900000)(hnc:n<=c)(h:Sl 1 ai w a n b) :
  Calls Tryz.prog 105 #[.slice a n c] w fun e w'=>AY w.heap.size b e w'/\Below w.heap.size w w':=by
 have HL:=aa hl
 have HS:=aa h
 have HBN:Hid (b.length=n):=h.1
 have hold:n=0\/∀ad,a=some ad->ad.block<w.heap.size:=by
  rcases h.2 with h0|⟨bb,off,ha,hc⟩
  ·exact .inl h0
  ·by_cases hn:n=0
   ·exact .inl hn
   ·obtain⟨x,hx⟩:=av h.1 (Nat.pos_of_ne_zero hn)
    obtain⟨vs,hk,hv,hcell⟩:=hc 0 x hx
    cases hv
    have h9:=hcell 0 _ rfl
    refine .inr fun ad had => ?_
    rw[had]at ha
    cases ha
    unfold World.cell? at h9
    cases hh:w.heap[bb]? with
    | none=>simp[hh]at h9
    | some o=>exact lt_of_block hh
 have HOLD:=aa hold
 have HNC:=aa hnc
 clear hl h hold hnc
 go_enter Tryz.func105,Tryz.ntmps105
 go_upto_region 2 with (fail)
 obtain⟨X2,hX2⟩:=zg w.heap.size
 obtain⟨Rb,hRb⟩:=zg (w.heap.size+1)
 obtain⟨w2,hw2⟩:=zg ((w.alloc (.cells #[.int .i64 0,.int .i64 0,.string ⟨#[]⟩,.slice none 0 0] 88)).alloc (.cells #[.slice a n c,.int .i64 0,.bool false] 166))
 rw[<-hw2,<-hRb,<-hX2]
 have hB2:Below w.heap.size w w2:=by rw[hw2];exact((Below.refl _ _).alloc (Nat.le_refl _) _).alloc (by simp) _
 have hx2:ac w2 X2 88 [.int .i64 0,.int .i64 0,.string ⟨#[]⟩,.slice none 0 0]:=by rw[hw2,hX2];exact aB _ (ak _ rfl)
 have hrow:ac w2 Rb 166 [.slice a n c,.int .i64 ((0:Nat):Int),.bool false]:=by rw[hw2,hRb];exact ak _ (by simp)
 have hrd:bW w2 Rb b 0 false:=⟨a,n,c,hrow,HNC.out,Nat.zero_le _,HS.out.below ai.keeps hB2,by rcases HOLD.out with h9|h9;exact .inl h9;exact .inr fun ad had=>by have:=h9 ad had;omega⟩
 have HLT:Hid (w.heap.size<=X2/\X2<Rb/\Rb<w2.heap.size/\w.heap.size<w2.heap.size):=⟨om,om,hrow.lt,by have:=hrow.lt;omega⟩
 have HC:=aa (rB 16 Rb 0 b w2 (Nat.le_refl _) (by have:=HL.out;omega) hrd)
 have HX2:=aa hx2
 have HB2:=aa hB2
 clear hX2 hRb hw2 hB2 hx2 hrow hrd
 go_wp2_with fail
 refine HC.out.mono ?_
 rintro e w3 ⟨⟨x0,x1,x2,x3,rfl,hone,hgv⟩,hm3⟩
 have HONE:=aa hone
 have HGV:=aa hgv
 have hx3:=hm3.row (X:=X2) (by have:=HLT.out;omega) HX2.out
 have hb3:=HB2.out.trans (hm3.below (B:=w.heap.size) (by have:=HLT.out;omega) HB2.out.size)
 have HM3:=aa hm3
 have HX3:=aa hx3
 have HB3:=aa hb3
 clear HC hone hgv hm3 hx3 hb3 HX2
 go_upto_region 3 with (refine wpList_store_row rfl 88 (.tmp 5) (.tmp 10) rfl w3.heap.size #[x0,x1,x2,x3] ?e1 ?e2 88 #[.int .i64 0,.int .i64 0,.string ⟨#[]⟩,.slice none 0 0] ?e3 (aS x0 x1 x2 x3) rfl (oB HONE.out) ?_;(case e1=>rfl);(case e2=>rfl);(case e3=>exact heap_alloc_new w3 _))
 obtain⟨X5,hX5⟩:=zg w3.heap.size
 obtain⟨w4,hw4⟩:=zg ((w3.alloc (.cells #[.int .i64 0,.int .i64 0,.string ⟨#[]⟩,.slice none 0 0] 88)).setRow w3.heap.size #[x0,x1,x2,x3])
 rw[<-hw4,<-hX5]
 have hU:Below w3.heap.size w3 w4:=by rw[hw4];exact bf _ _ _
 have h5:ac w4 X5 88 [x0,x1,x2,x3]:=by rw[hw4,hX5];exact setRow_heap _ _ _ _ _ _ (heap_alloc_new w3 _)
 have h24:=HX3.out.below hU HX3.out.lt
 have hb4:=HB3.out.trans (hU.mono HB3.out.size)
 have hgv4:(∃v k',aV 16 (b.drop 0)=some (v,b.drop k')/\0<=k'/\cu (fun q=>w2.heap.size<q) 16 w4 [x0,x1,x2,x3] v/\bW w4 Rb b k' false)\/(aV 16 (b.drop 0)=none/\∃k',bW w4 Rb b k' true):=by
  rcases HGV.out with ⟨v,k',h1,h2,h3,h4⟩|⟨h1,k',h2⟩
  ·exact .inl ⟨v,k',h1,h2,h3.keep fun q hq hlt=>⟨hq,hU.block q hlt⟩,h4.below hU⟩
  ·exact .inr ⟨h1,k',h2.below hU⟩
 rw[List.drop_zero]at hgv4
 have H5:=aa h5
 have HX:=aa h24
 have HB4:=aa hb4
 have HNE:Hid (X5≠X2):=by have:=HX3.out.lt;show _≠_;omega
 clear hX5 hw4 hU h5 h24 hb4 HGV HX3 HB3
 rcases hgv4 with ⟨v,k',hv,_,hvr,hr⟩|⟨hv,k',hr⟩
 rotate_left
 ·have HDN:Hid (ct b=none):=by rw[Hid];unfold ct;rw[hv]
  obtain⟨_,_,_,_,_,_,f0,f1,f2,_,_,_,_,_,_⟩:=hr.cells
  clear hv hr
  refine bA (fun W=>Below w4.heap.size w4 W) kr ?_
  change aW _ _ _ _ _ _ #[false,false,false,false,false,false,false,false,false,false,false,false,false,false,false,false,false,false,false,false,false,false,false,false,false,false] _ (World.drew w4)
  have hS:Below w4.heap.size w4 (World.drew w4):=(Below.refl _ _).drew
  generalize World.drew w4=y0 at *
  refine ay 0 11 (.pointer (some ⟨Rb,0,none⟩)) rfl hS ?_
  try simp only[Act.put,zP]
  refine ay 1 12 (.pointer (some ⟨Rb,0,none⟩)) rfl hS ?_
  try simp only[Act.put,zP]
  refine ay 2 13 (.pointer (some ⟨Rb,2,none⟩)) rfl hS ?_
  try simp only[Act.put,zP]
  refine aZ 3 14 (.bool true) rfl (fun W h=>jj (.tmp 13) kr ⟨Rb,2,none⟩ kr (ag h f2)) hS ?_
  try simp only[Act.put,zP]
  refine ay 4 15 (.bool true) rfl hS ?_
  try simp only[Act.put,zP]
  refine cv 5 16 rfl hS ?_
  try simp only[Act.put,zP]
  refine cv 6 17 rfl hS ?_
  try simp only[Act.put,zP]
  refine cv 7 18 rfl hS ?_
  try simp only[Act.put,zP]
  refine cv 8 19 rfl hS ?_
  try simp only[Act.put,zP]
  refine cv 9 20 rfl hS ?_
  try simp only[Act.put,zP]
  refine cv 10 21 rfl hS ?_
  try simp only[Act.put,zP]
  refine cv 11 22 rfl hS ?_
  try simp only[Act.put,zP]
  refine ay 12 23 (.bool true) rfl hS ?_
  try simp only[Act.put,zP]
  refine ay 13 24 (.bool true) rfl hS ?_
  try simp only[Act.put,zP]
  refine cv 14 25 rfl hS ?_
  try simp only[Act.put,zP]
  refine cv 15 26 rfl hS ?_
  try simp only[Act.put,zP]
  refine cv 16 27 rfl hS ?_
  try simp only[Act.put,zP]
  refine ay 17 28 (.bool true) rfl hS ?_
  try simp only[Act.put,zP]
  refine ay 18 29 (.bool true) rfl hS ?_
  try simp only[Act.put,zP]
  refine cv 19 30 rfl hS ?_
  try simp only[Act.put,zP]
  refine cv 20 31 rfl hS ?_
  try simp only[Act.put,zP]
  refine cv 21 32 rfl hS ?_
  try simp only[Act.put,zP]
  refine cv 22 33 rfl hS ?_
  try simp only[Act.put,zP]
  refine cv 23 34 rfl hS ?_
  try simp only[Act.put,zP]
  refine cv 24 35 rfl hS ?_
  try simp only[Act.put,zP]
  refine ay 25 36 (.bool true) rfl hS ?_
  try simp only[Act.put,zP]
  clear f0 f1 f2
  refine bp kr ?_
  have HXZ:=aa (HX.out.below hS HX.out.lt)
  have HBZ:=aa (HB4.out.trans (hS.mono HB4.out.size))
  clear hS
  go_upto_region 4 with (fail)
  refine wp_region_list ?_
  refine dd (.agg #[.int .i64 0,.int .i64 0,.string ⟨#[]⟩,.slice none 0 0]) ?_
  simp only[Act.put,zp]
  refine wpList_store_row rfl 88 (.tmp 2) (.tmp 37) rfl X2 #[.int .i64 0,.int .i64 0,.string ⟨#[]⟩,.slice none 0 0] ?q1a ?q1b 88 _ HXZ.out (aS (.int .i64 0) (.int .i64 0) (.string ⟨#[]⟩) (.slice none 0 0)) rfl kr ?_
  case q1a=>rfl
  case q1b=>rfl
  go_wp2_with fail
  refine bodyPost_ret (di rfl _ _ X2 88 #[.int .i64 0,.int .i64 0,.string ⟨#[]⟩,.slice none 0 0] (0,0) _ rfl rfl (setRow_heap _ _ _ _ _ _ HXZ.out) Tryz.underlying88 (aS (.int .i64 0) (.int .i64 0) (.string ⟨#[]⟩) (.slice none 0 0))) rfl ?_
  have HBF:Hid (Below w.heap.size w _):=below_setRow HBZ.out HLT.out.1 #[.int .i64 0,.int .i64 0,.string ⟨#[]⟩,.slice none 0 0]
  exact⟨⟨_,_,_,_,⟨rfl,rfl,rfl,rfl⟩,.inr ⟨HDN.out,rfl⟩⟩,HBF.out⟩
 have HVR:=aa hvr
 have HVP:=aa hv
 have HKL:=aa hr.le
 obtain⟨_,_,_,_,_,_,f0,f1,f2,_,_,_,_,_,_⟩:=hr.cells
 clear hv hr hvr
 by_cases hkn:k'=n
 rotate_left
 ·have HDN:Hid (ct b=none):=by
   rw[Hid];unfold ct;rw[HVP.out]
   have h9:b.drop k'≠[]:=by
    intro h8
    have:=List.drop_eq_nil_iff.1 h8
    have h1:=HKL.out;have h2:=HBN.out;omega
   cases h8:b.drop k' with
   | nil=>exact absurd h8 h9
   | cons y ys=>rfl
  refine bA (fun W=>Below w4.heap.size w4 W) kr ?_
  change aW _ _ _ _ _ _ #[false,false,false,false,false,false,false,false,false,false,false,false,false,false,false,false,false,false,false,false,false,false,false,false,false,false] _ (World.drew w4)
  have hS:Below w4.heap.size w4 (World.drew w4):=(Below.refl _ _).drew
  generalize World.drew w4=y0 at *
  refine ay 0 11 (.pointer (some ⟨Rb,0,none⟩)) rfl hS ?_
  try simp only[Act.put,zP]
  refine ay 1 12 (.pointer (some ⟨Rb,0,none⟩)) rfl hS ?_
  try simp only[Act.put,zP]
  refine ay 2 13 (.pointer (some ⟨Rb,2,none⟩)) rfl hS ?_
  try simp only[Act.put,zP]
  refine aZ 3 14 (.bool false) rfl (fun W h=>jj (.tmp 13) kr ⟨Rb,2,none⟩ kr (ag h f2)) hS ?_
  try simp only[Act.put,zP]
  refine ay 4 15 (.bool false) rfl hS ?_
  try simp only[Act.put,zP]
  refine ay 5 16 (.pointer (some ⟨Rb,0,none⟩)) rfl hS ?_
  try simp only[Act.put,zP]
  refine ay 6 17 (.pointer (some ⟨Rb,0,none⟩)) rfl hS ?_
  try simp only[Act.put,zP]
  refine ay 7 18 (.pointer (some ⟨Rb,1,none⟩)) rfl hS ?_
  try simp only[Act.put,zP]
  refine aZ 8 19 (.int .i64 (k':Int)) rfl (fun W h=>gu (.tmp 18) kr ⟨Rb,1,none⟩ kr (ag h f1)) hS ?_
  try simp only[Act.put,zP]
  refine ay 9 20 (.slice a n c) rfl hS ?_
  try simp only[Act.put,zP]
  refine ay 10 21 (.int .i64 (n:Int)) rfl hS ?_
  try simp only[Act.put,zP]
  refine aZ 11 22 (.bool true) rfl (fun W h=>tJ (.tmp 19) (.tmp 21) kr k' n true (by simpa using hkn) kr kr) hS ?_
  try simp only[Act.put,zP]
  refine ay 12 23 (.bool true) rfl hS ?_
  try simp only[Act.put,zP]
  refine ay 13 24 (.bool true) rfl hS ?_
  try simp only[Act.put,zP]
  refine cv 14 25 rfl hS ?_
  try simp only[Act.put,zP]
  refine cv 15 26 rfl hS ?_
  try simp only[Act.put,zP]
  refine cv 16 27 rfl hS ?_
  try simp only[Act.put,zP]
  refine ay 17 28 (.bool true) rfl hS ?_
  try simp only[Act.put,zP]
  refine ay 18 29 (.bool true) rfl hS ?_
  try simp only[Act.put,zP]
  refine cv 19 30 rfl hS ?_
  try simp only[Act.put,zP]
  refine cv 20 31 rfl hS ?_
  try simp only[Act.put,zP]
  refine cv 21 32 rfl hS ?_
  try simp only[Act.put,zP]
  refine cv 22 33 rfl hS ?_
  try simp only[Act.put,zP]
  refine cv 23 34 rfl hS ?_
  try simp only[Act.put,zP]
  refine cv 24 35 rfl hS ?_
  try simp only[Act.put,zP]
  refine ay 25 36 (.bool true) rfl hS ?_
  try simp only[Act.put,zP]
  clear f0 f1 f2 hkn
  refine bp kr ?_
  have HXZ:=aa (HX.out.below hS HX.out.lt)
  have HBZ:=aa (HB4.out.trans (hS.mono HB4.out.size))
  clear hS
  go_upto_region 4 with (fail)
  refine wp_region_list ?_
  refine dd (.agg #[.int .i64 0,.int .i64 0,.string ⟨#[]⟩,.slice none 0 0]) ?_
  simp only[Act.put,zp]
  refine wpList_store_row rfl 88 (.tmp 2) (.tmp 37) rfl X2 #[.int .i64 0,.int .i64 0,.string ⟨#[]⟩,.slice none 0 0] ?q2a ?q2b 88 _ HXZ.out (aS (.int .i64 0) (.int .i64 0) (.string ⟨#[]⟩) (.slice none 0 0)) rfl kr ?_
  case q2a=>rfl
  case q2b=>rfl
  go_wp2_with fail
  refine bodyPost_ret (di rfl _ _ X2 88 #[.int .i64 0,.int .i64 0,.string ⟨#[]⟩,.slice none 0 0] (0,0) _ rfl rfl (setRow_heap _ _ _ _ _ _ HXZ.out) Tryz.underlying88 (aS (.int .i64 0) (.int .i64 0) (.string ⟨#[]⟩) (.slice none 0 0))) rfl ?_
  have HBF:Hid (Below w.heap.size w _):=below_setRow HBZ.out HLT.out.1 #[.int .i64 0,.int .i64 0,.string ⟨#[]⟩,.slice none 0 0]
  exact⟨⟨_,_,_,_,⟨rfl,rfl,rfl,rfl⟩,.inr ⟨HDN.out,rfl⟩⟩,HBF.out⟩
 have HDV:Hid (ct b=some v):=by
  refine BU ?_
  rw[HVP.out,List.drop_eq_nil_of_le (by have:=HBN.out;omega)]
 have HEV:=aa (rE HDV.out)
 refine bA (fun W=>Below w4.heap.size w4 W) kr ?_
 change aW _ _ _ _ _ _ #[false,false,false,false,false,false,false,false,false,false,false,false,false,false,false,false,false,false,false,false,false,false,false,false,false,false] _ (World.drew w4)
 have hS:Below w4.heap.size w4 (World.drew w4):=(Below.refl _ _).drew
 generalize World.drew w4=y0 at *
 refine ay 0 11 (.pointer (some ⟨Rb,0,none⟩)) rfl hS ?_
 try simp only[Act.put,zP]
 refine ay 1 12 (.pointer (some ⟨Rb,0,none⟩)) rfl hS ?_
 try simp only[Act.put,zP]
 refine ay 2 13 (.pointer (some ⟨Rb,2,none⟩)) rfl hS ?_
 try simp only[Act.put,zP]
 refine aZ 3 14 (.bool false) rfl (fun W h=>jj (.tmp 13) kr ⟨Rb,2,none⟩ kr (ag h f2)) hS ?_
 try simp only[Act.put,zP]
 refine ay 4 15 (.bool false) rfl hS ?_
 try simp only[Act.put,zP]
 refine ay 5 16 (.pointer (some ⟨Rb,0,none⟩)) rfl hS ?_
 try simp only[Act.put,zP]
 refine ay 6 17 (.pointer (some ⟨Rb,0,none⟩)) rfl hS ?_
 try simp only[Act.put,zP]
 refine ay 7 18 (.pointer (some ⟨Rb,1,none⟩)) rfl hS ?_
 try simp only[Act.put,zP]
 refine aZ 8 19 (.int .i64 (k':Int)) rfl (fun W h=>gu (.tmp 18) kr ⟨Rb,1,none⟩ kr (ag h f1)) hS ?_
 try simp only[Act.put,zP]
 refine ay 9 20 (.slice a n c) rfl hS ?_
 try simp only[Act.put,zP]
 refine ay 10 21 (.int .i64 (n:Int)) rfl hS ?_
 try simp only[Act.put,zP]
 refine aZ 11 22 (.bool false) rfl (fun W h=>tJ (.tmp 19) (.tmp 21) kr k' n false (by simpa using hkn) kr kr) hS ?_
 try simp only[Act.put,zP]
 refine ay 12 23 (.bool false) rfl hS ?_
 try simp only[Act.put,zP]
 refine ay 13 24 (.bool false) rfl hS ?_
 try simp only[Act.put,zP]
 refine aZ 14 25 (.agg #[x0,x1,x2,x3]) rfl (fun W h=>iH (.tmp 5) kr X5 kr (H5.out.below h H5.out.lt)) hS ?_
 try simp only[Act.put,zP]
 refine dk 15 26 (.int .i64 0) 110 #[.agg #[x0,x1,x2,x3]] kr rfl kr kr kr (lK 16 (Nat.le_refl _) v x0 x1 x2 x3 y0 (by rw[HEV.out];exact HL.out) (VR.below 16 _ _ _ _ hS HVR.out.vr)) (fun y1 hU=>⟨hS.trans (hU.mono hS.size),?_⟩)
 have hS:=hS.trans (hU.mono hS.size)
 clear hU
 try simp only[Act.put,zP]
 refine ay 16 27 (.bool false) rfl hS ?_
 try simp only[Act.put,zP]
 refine ay 17 28 (.bool false) rfl hS ?_
 try simp only[Act.put,zP]
 refine ay 18 29 (.bool false) rfl hS ?_
 try simp only[Act.put,zP]
 refine aZ 19 30 (.agg #[x0,x1,x2,x3]) rfl (fun W h=>iH (.tmp 5) kr X5 kr (H5.out.below h H5.out.lt)) hS ?_
 try simp only[Act.put,zP]
 refine ay 22 33 (.slice a n c) rfl hS ?_
 try simp only[Act.put,zP]
 refine aZ 23 34 (.string (aw b)) rfl (fun W h=>iV (ad:=a) (n:=n) (c:=c) (.tmp 33) kr kr ((HS.out.below ai.keeps HB4.out).below ai.keeps h)) hS ?_
 try simp only[Act.put,zP]
 refine aU 20 kr rfl kr ?_
 refine dF 111 #[.agg #[x0,x1,x2,x3]] kr ?_
 refine(kT 16 v [x0,x1,x2,x3] y1 (VR.below 16 _ _ _ _ hS HVR.out.vr) (by rw[HEV.out];exact HL.out)).mono ?_
 rintro e y2 ⟨⟨va,vc,rfl,hown⟩,hU⟩
 have hsl:=(fE hown rfl).2
 rw[HEV.out]at hsl
 have hS:=hS.trans (hU.mono hS.size)
 refine .inl ⟨_,rfl,hS,?_⟩
 try simp only[Act.put,zP]
 refine fI (S':=fun W=>Below y2.heap.size y2 W) (fun W h=>hS.trans (h.mono hS.size)) ?_
 have HSL:=aa hsl
 have hS2:=hS
 have hS:Below y2.heap.size y2 y2:=Below.refl _ _
 have HS2:=aa hS2
 clear hsl hown hU hS2
 refine aZ 21 32 (.string (aw b)) rfl (fun W h=>iV (ad:=va) (n:=b.length) (c:=vc) (.tmp 31) kr (by rw[<-HEV.out];kernel_rfl) (HSL.out.below ai.keeps h)) hS ?_
 try simp only[Act.put,zP]
 refine aZ 24 35 (.bool false) rfl (fun W h=>uO (.tmp 32) (.tmp 34) kr (aw b) kr kr) hS ?_
 try simp only[Act.put,zP]
 refine ay 25 36 (.bool false) rfl hS ?_
 try simp only[Act.put,zP]
 refine bp kr ?_
 have hS:=HS2.out
 have HXZ:=aa (HX.out.below hS HX.out.lt)
 have HBZ:=aa (HB4.out.trans (hS.mono HB4.out.size))
 have H5Z:=aa (H5.out.below hS H5.out.lt)
 have HVZ:Hid (cu (fun q=>w2.heap.size<q) 16 y2 [x0,x1,x2,x3] v):=HVR.out.keep fun q hq hlt=>⟨hq,hS.block q hlt⟩
 clear hS f0 f1 f2 hkn
 go_upto_region 5 with (fail)
 refine wp_region_list ?_
 refine fX (.agg #[x0,x1,x2,x3]) (iH (.tmp 5) kr X5 kr H5Z.out) ?_
 simp only[Act.put,zp]
 refine wpList_store_row rfl 88 (.tmp 2) (.tmp 38) rfl X2 #[x0,x1,x2,x3] ?q3a ?q3b 88 _ HXZ.out (aS x0 x1 x2 x3) rfl (oB HONE.out) ?_
 case q3a=>rfl
 case q3b=>rfl
 go_wp2_with fail
 refine bodyPost_ret (di rfl _ _ X2 88 #[x0,x1,x2,x3] (0,0) _ rfl rfl (setRow_heap _ _ _ _ _ _ HXZ.out) Tryz.underlying88 (aS x0 x1 x2 x3)) rfl ?_
 have HBF:Hid (Below w.heap.size w _):=below_setRow HBZ.out HLT.out.1 #[x0,x1,x2,x3]
 refine⟨⟨_,_,_,_,HONE.out,.inl ⟨v,HDV.out,rfl,?_⟩⟩,HBF.out⟩
 have h9:=HVZ.out.row (X:=X2) (D:=#[x0,x1,x2,x3]) (by have:=HLT.out;omega)
 exact h9.mono fun q hq _=>by have:=HLT.out;omega
def gM : List Value:=[.int .i64 0,.int .i64 0,.int .u8 0,.int .u8 0,.int .u8 0,.int .u8 0,.int .u8 0,.int .u8 0,.int .u8 0,.int .u8 0,.int .u8 0,.int .u8 0,.int .u8 0,.int .u8 0,.int .u8 0,.int .u8 0,.int .u8 0,.int .u8 0,.int .u8 0,.int .u8 0,.int .u8 0,.int .u8 0,.int .u8 0,.int .u8 0,.int .u8 0,.int .u8 0,.int .u8 0,.int .u8 0,.int .u8 0,.int .u8 0,.int .u8 0,.int .u8 0,.int .u8 0,.int .u8 0,.slice none 0 0]
theorem uP {b:List UInt8}{p q r s:aT}(h:ct b=some (.list [p,q,r,s])):fL b=if bi p=1/\bi q=1/\bi r=2/\(aI r).length=32/\bi s=2 then some ⟨bk p,bk q,aI r,aI s⟩ else none:=by
 unfold fL
 rw[h]
 cases p<;>cases q<;>cases r<;>cases s<;>simp[bi,bk,aI]
theorem sS {b:List UInt8}{l:List aT}(h:ct b=some (.list l))(hl:l.length≠4):fL b=none:=by
 unfold fL
 rw[h]
 match l,hl with
 | [],_=>rfl
 | [_],_=>simp
 | [_,_],_=>simp
 | [_,_,_],_=>simp
 | [_,_,_,_],hl=>exact absurd rfl hl
 | _::_::_::_::_::_,_=>simp
theorem xj {b:List UInt8}{x:ar}(h:fL b=some x):∃p q r s,ct b=some (.list [p,q,r,s])/\(aI r).length=32/\x=⟨bk p,bk q,aI r,aI s⟩:=by
 have h0:=h
 unfold fL at h
 split at h
 ·next p q r s hd =>
  split at h
  ·next hr =>
   cases h
   exact⟨_,_,_,_,hd,hr,rfl⟩
  ·cases h
 ·cases h
theorem zi {o:Oper}{act:Act}{W:World}(p q:Operand)(ho:o.op=.index 9 p q)(l:List UInt8)(i:Nat)(x:UInt8)(hx:l[i]? = some x)(hp:act.eval p=.string (aw l))(hq:act.eval q=.int .i64 (i:Int)):(execOp act.eval o).run Tryz.prog W=.ok (.value (.int .u8 x.toNat)) W:=by
 have hlt:=(List.getElem?_eq_some_iff.1 hx).1
 have hsz:(aw l).size=l.length:=by simp[aw,ByteArray.size]
 have hin:0<=(i:Int)/\(i:Int)<(aw l).size:=⟨om,by rw[hsz];omega⟩
 have hr:(Instr.index 9 (.string (aw l)) (.int .i64 (i:Int))).run Tryz.prog W=.ok (.int .u8 x.toNat) W:=by
  rw[run_index_string W 9 (aw l) .i64 i Tryz.underlying9,dif_pos hin]
  have h9:=(List.getElem?_eq_some_iff.1 hx).2
  have:(aw l)[(i:Int).toNat]'om=x:=by
   rw[<-h9]
   simp[aw]
   rfl
  rw[this]
 unfold execOp
 simp only[ho,hp,hq]
 go_simp
 try simp[hr]
def cG (l:List UInt8)(i:Nat):List UInt8:=l.take i++List.replicate (32-i) 0
theorem kY {l:List UInt8}(h:l.length=32){i:Nat}(hi:i<=32):(cG l i).length=32:=by simp[cG,h];omega
theorem zj {l:List UInt8}(h:l.length=32):cG l 32=l:=by simp[cG,List.take_of_length_le (by omega:l.length<=32)]
theorem zk {l:List UInt8}(h:l.length=32){i:Nat}{x:UInt8}(hx:l[i]? = some x):(cG l i).set i x=cG l (i+1):=by
 have hi:=(List.getElem?_eq_some_iff.1 hx).1
 have e1:(l.take i).length=i:=by rw[List.length_take];omega
 unfold cG
 rw[List.set_append,if_neg om,e1,Nat.sub_self,show 32-i=(32-(i+1))+1 by omega,List.replicate_succ,zC,List.take_add_one,hx]
 simp
theorem xk {p q:Int}{l d:List UInt8}(h:l.length=32){i:Nat}{x:UInt8}(hx:l[i]? = some x)(a:Option Addr)(n c:Nat):(ah ⟨p,q,cG l i,d⟩ a n c).toArray.setIfInBounds (2+i) (.int .u8 x.toNat)=(ah ⟨p,q,cG l (i+1),d⟩ a n c).toArray:=by
 have hi:=(List.getElem?_eq_some_iff.1 hx).1
 have hl:(af (cG l i)).length=32:=by simp[af,kY h (show i<=32 by omega)]
 rw[zA]
 unfold ah
 rw[show 2+i=i+1+1 by omega,zB,zB,List.set_append,if_pos (by show i<(af (cG l i)).length;omega),lF,zk h hx]
theorem AZ {o:Oper}{act:Act}{W:World}(p q:Operand)(ho:o.op=.indexAddr 48 p q)(X off i:Nat)(hp:act.eval p=.pointer (some ⟨X,off,none⟩))(hq:act.eval q=.int .i64 (i:Int))(hi:i<32):(execOp act.eval o).run Tryz.prog W=.ok (.value (.pointer (some ⟨X,off+i,none⟩))) W:=by
 have h0:(0:Int)<=(i:Int):=om
 have h1:(i:Int)<32:=om
 unfold execOp
 simp only[ho,hp,hq]
 go_simp
theorem oJ {A:Nat->Prop}{d:Nat}{W:World}{a:Option Addr}{p q r s:aT}(h:Sl 4 (cu A d) W a 4 [p,q,r,s]):∃g off,a=some ⟨g,off,none⟩/\W.cell? ⟨g,off,none⟩=some (.int .i64 (bi p))/\W.cell? ⟨g,off+4,none⟩=some (.int .i64 (bi q))/\W.cell? ⟨g,off+8,none⟩=some (.int .i64 (bi r))/\W.cell? ⟨g,off+12,none⟩=some (.int .i64 (bi s)) /\
  W.cell? ⟨g,off+1,none⟩=some (.int .i64 (bk p))/\W.cell? ⟨g,off+5,none⟩=some (.int .i64 (bk q))/\W.cell? ⟨g,off+10,none⟩=some (.string (aw (aI r)))/\W.cell? ⟨g,off+14,none⟩=some (.string (aw (aI s))):=by
 rcases h.2 with h0|⟨g,off,ha,hc⟩
 ·omega
 ·obtain⟨v0,l0,r0,c0⟩:=hc 0 p rfl
  obtain⟨v1,l1,r1,c1⟩:=hc 1 q rfl
  obtain⟨v2,l2,r2,c2⟩:=hc 2 r rfl
  obtain⟨v3,l3,r3,c3⟩:=hc 3 s rfl
  obtain⟨k0,_,_,_,rfl,_⟩:=r0.show
  obtain⟨k1,_,_,_,rfl,_⟩:=r1.show
  obtain⟨k2,_,_,_,rfl,_⟩:=r2.show
  obtain⟨k3,_,_,_,rfl,_⟩:=r3.show
  obtain⟨_,_,_,_,_,e0,_,_,_⟩:=r0.vr.four
  obtain⟨_,_,_,_,_,e1,_,_,_⟩:=r1.vr.four
  obtain⟨_,_,_,_,_,e2,_,_,_⟩:=r2.vr.four
  obtain⟨_,_,_,_,_,e3,_,_,_⟩:=r3.vr.four
  exact⟨g,off,ha,by have:=c0 0 _ rfl;rw[e0]at this;simpa using this,by have:=c1 0 _ rfl;rw[e1]at this;simpa using this,by have:=c2 0 _ rfl;rw[e2]at this;simpa using this,by have:=c3 0 _ rfl;rw[e3]at this;simpa using this,
   by simpa using c0 1 _ rfl,by simpa[Nat.add_assoc] using c1 1 _ rfl,by simpa[Nat.add_assoc] using c2 2 _ rfl,by simpa[Nat.add_assoc] using c3 2 _ rfl⟩
def BX (b:List UInt8)(e:Ending)(w:World):Prop:=
 (∃x da dn dc,aP b=some x/\e=.returned (.tuple #[.agg (ah x da dn dc).toArray,.bool true])/\x.prev.length=32/\(bQ x.node/\bQ x.no)/\dn<=dc/\dq w da dn x.data)\/(aP b=none/\e=.returned (.tuple #[.agg gM.toArray,.bool false]))
theorem mv {x:ar}(h:x.prev.length=32)(a:Option Addr)(n c:Nat):gM.toArray.size=(ah x a n c).toArray.size:=by rw[List.size_toArray,List.size_toArray,bh h];rfl
theorem pz : (Tryz.prog.info? 50).map (·.size)=some gM.toArray.size:=kr
theorem zl (a:Option Addr)(n c:Nat)(b:List UInt8)(w:World)(hl:b.length<=100000)(hnc:n<=c)(h:Sl 1 ai w a n b) :
  Calls Tryz.prog 64 #[.slice a n c] w fun e w'=>BX b e w'/\Below w.heap.size w w':=by
 have HL:=aa hl
 have HS:=aa h
 have HNC:=aa hnc
 clear hl h hnc
 go_enter Tryz.func64,Tryz.ntmps64
 go_upto_region 1 with (fail)
 obtain⟨X2,hX2⟩:=zg w.heap.size
 obtain⟨w1,hw1⟩:=zg (w.alloc (.cells zH 50))
 rw[<-hw1,<-hX2]
 have hB1:Below w.heap.size w w1:=by rw[hw1];exact(Below.refl _ _).alloc (Nat.le_refl _) _
 have hx1:ac w1 X2 50 gM:=by rw[hw1,hX2];exact ak _ rfl
 have HX2:Hid (w.heap.size<=X2):=Nat.le_of_eq hX2.symm
 have HC:=aa (zf a n c b w1 (by have:=HL.out;omega) HNC.out (HS.out.below ai.keeps hB1))
 have HXX:Hid (X2<w1.heap.size):=hx1.lt
 have HX:=aa hx1
 have HB:=aa hB1
 clear hX2 hw1 hB1 hx1
 go_wp2_with fail
 refine HC.out.mono ?_
 rintro e w2 ⟨⟨x0,x1,x2,x3,hone,hgv⟩,hU⟩
 have HONE:=aa hone
 have HX:=aa (HX.out.below hU HX.out.lt)
 have HLT1:Hid (w1.heap.size<=w2.heap.size):=hU.size
 have HB:=aa (HB.out.trans (hU.mono HB.out.size))
 clear HC hone hU
 have hk:∃k:Int,e=.returned (.tuple #[.agg #[x0,x1,x2,x3],.int .i64 k])/\((k=0/\∃v,ct b=some v/\cu (fun q=>w1.heap.size<=q) 16 w2 [x0,x1,x2,x3] v)\/(k=10/\ct b=none)):=by
  rcases hgv with ⟨v,h1,h2,h3⟩|⟨h1,h2⟩
  ·exact⟨0,h2,.inl ⟨rfl,v,h1,h3⟩⟩
  ·exact⟨10,h2,.inr ⟨rfl,h1⟩⟩
 obtain⟨k,rfl,hk⟩:=hk
 clear hgv
 go_upto_region 2 with (refine wpList_store_row rfl 88 (.tmp 4) (.tmp 11) rfl w2.heap.size #[x0,x1,x2,x3] ?e1 ?e2 88 #[.int .i64 0,.int .i64 0,.string ⟨#[]⟩,.slice none 0 0] ?e3 (aS x0 x1 x2 x3) rfl (oB HONE.out) ?_;(case e1=>rfl);(case e2=>rfl);(case e3=>exact heap_alloc_new w2 _))
 obtain⟨X4,hX4⟩:=zg w2.heap.size
 obtain⟨w4,hw4⟩:=zg ((w2.alloc (.cells #[.int .i64 0,.int .i64 0,.string ⟨#[]⟩,.slice none 0 0] 88)).setRow w2.heap.size #[x0,x1,x2,x3])
 rw[<-hw4,<-hX4]
 have hU:Below w2.heap.size w2 w4:=by rw[hw4];exact bf _ _ _
 have h4:ac w4 X4 88 [x0,x1,x2,x3]:=by rw[hw4,hX4];exact setRow_heap _ _ _ _ _ _ (heap_alloc_new w2 _)
 have hx4:=HX.out.below hU HX.out.lt
 have hb4:=HB.out.trans (hU.mono HB.out.size)
 have hk4:(k=0/\∃v,ct b=some v/\cu (fun q=>w1.heap.size<=q) 16 w4 [x0,x1,x2,x3] v)\/(k=10/\ct b=none):=by
  rcases hk with ⟨h1,v,h2,h3⟩|h1
  ·exact .inl ⟨h1,v,h2,h3.keep fun q hq hlt=>⟨hq,hU.block q hlt⟩⟩
  ·exact .inr h1
 have H4:=aa h4
 have HX:=aa hx4
 have HB4:=aa hb4
 have HK4:=aa hk4
 have HRR:=aa (yV (b:=b) (by have:=HL.out;omega))
 clear hX4 hw4 hU h4 hx4 hb4 hk HB HLT1 HXX hk4
 go_cut [66] (fun s66 wx=>s66=.bool (aP b).isNone/\w4=wx)
 case first =>
  have hr4:=H4.out
  rcases HK4.out with ⟨rfl,v,hd,hvr⟩|⟨rfl,hd⟩
  rotate_left
  ·have HN:Hid (aP b=none):=by rw[Hid,<-HRR.out];unfold fL;rw[hd]
   clear hd hr4
   go_wp2_with fail
   go_meet
   exact⟨by rw[HN.out];rfl,rfl⟩
  have hvr:cu (fun q=>w1.heap.size<=q) (15+1) w4 [x0,x1,x2,x3] v:=hvr
  cases v with
  | int m =>
   have HN:Hid (aP b=none):=by rw[Hid,<-HRR.out];unfold fL;rw[hd]
   simp only[cu,List.cons.injEq,and_true]at hvr
   obtain⟨_,rfl,rfl,rfl,rfl⟩:=hvr
   obtain⟨_,f0,f1,f2,f3,_,_⟩:=aF (Below.refl _ w4) hr4
   clear hd hr4
   go_wp2_with fail
   go_meet
   exact⟨by rw[HN.out];rfl,rfl⟩
  | text m =>
   have HN:Hid (aP b=none):=by rw[Hid,<-HRR.out];unfold fL;rw[hd]
   simp only[cu,List.cons.injEq,and_true]at hvr
   obtain⟨rfl,rfl,rfl,rfl⟩:=hvr
   obtain⟨_,f0,f1,f2,f3,_,_⟩:=aF (Below.refl _ w4) hr4
   clear hd hr4
   go_wp2_with fail
   go_meet
   exact⟨by rw[HN.out];rfl,rfl⟩
  | list l =>
   simp only[cu]at hvr
   obtain⟨ga,gn,gc,hv4,hgc,_,hsl⟩:=hvr
   have hsl:Sl 4 (cu (fun q=>w1.heap.size<=q) 15) w4 ga gn l:=hsl
   simp only[List.cons.injEq,and_true]at hv4
   obtain⟨rfl,rfl,rfl,rfl⟩:=hv4
   obtain⟨_,f0,f1,f2,f3,_,_⟩:=aF (Below.refl _ w4) hr4
   clear hr4
   by_cases hg4:gn=4
   rotate_left
   ·have HN:Hid (aP b=none):=by rw[Hid,<-HRR.out];exact sS hd (by rw[hsl.1];exact hg4)
    have b1:((gn:Int) != 4)=true:=by simp;omega
    clear hd hsl hg4
    go_wp2_with fail
    go_meet
    exact⟨by rw[HN.out];rfl,rfl⟩
   subst hg4
   obtain⟨p,q,r,s,rfl⟩:∃p q r s,l=[p,q,r,s]:=by
    have h9:=hsl.1
    match l,h9 with
    | [p,q,r,s],_=>exact⟨p,q,r,s,rfl⟩
   obtain⟨gg,go,rfl,p0,q0,r0,s0,p1,q1,r2,s2⟩:=oJ hsl
   have hrr:aP b=if bi p=1/\bi q=1/\bi r=2/\(aI r).length=32/\bi s=2 then some ⟨bk p,bk q,aI r,aI s⟩ else none:=by rw[<-HRR.out];exact uP hd
   have HRQ:=aa hrr
   obtain⟨tr,htr⟩:=zg (aw (aI r))
   have htz:tr.size=(aI r).length:=by rw[htr];simp[aw,ByteArray.size]
   have HTZ:=aa htz
   rw[<-htr]at r2
   obtain⟨kp,hkp⟩:∃k:Nat,k=bi p:=⟨_,rfl⟩
   obtain⟨kq,hkq⟩:∃k:Nat,k=bi q:=⟨_,rfl⟩
   obtain⟨kr,hkr⟩:∃k:Nat,k=bi r:=⟨_,rfl⟩
   obtain⟨ks,hks⟩:∃k:Nat,k=bi s:=⟨_,rfl⟩
   rw[<-hkp]at p0
   rw[<-hkq]at q0
   rw[<-hkr]at r0
   rw[<-hks]at s0
   rw[<-hkp,<-hkq,<-hkr,<-hks]at HRQ
   clear hd hsl hrr htr htz hkp hkq hkr hks
   by_cases e1:kp=1
   rotate_left
   ·have HN:Hid (aP b=none):=by rw[Hid,HRQ.out];exact if_neg (fun h=>e1 h.1)
    have b1:((kp:Int) != 1)=true:=by simp;omega
    clear e1
    go_wp2_with fail
    go_meet
    exact⟨by rw[HN.out];rfl,rfl⟩
   have b1:((kp:Int) != 1)=false:=by simp;omega
   by_cases e2:kq=1
   rotate_left
   ·have HN:Hid (aP b=none):=by rw[Hid,HRQ.out];exact if_neg (fun h=>e2 h.2.1)
    have b2:((kq:Int) != 1)=true:=by simp;omega
    clear e1 e2
    go_wp2_with fail
    go_meet
    exact⟨by rw[HN.out];rfl,rfl⟩
   have b2:((kq:Int) != 1)=false:=by simp;omega
   by_cases e3:kr=2
   rotate_left
   ·have HN:Hid (aP b=none):=by rw[Hid,HRQ.out];exact if_neg (fun h=>e3 h.2.2.1)
    have b3:((kr:Int) != 2)=true:=by simp;omega
    clear e1 e2 e3
    go_wp2_with fail
    go_meet
    exact⟨by rw[HN.out];rfl,rfl⟩
   have b3:((kr:Int) != 2)=false:=by simp;omega
   by_cases e4:tr.size=32
   rotate_left
   ·have HN:Hid (aP b=none):=by rw[Hid,HRQ.out];exact if_neg (fun h=>e4 (by rw[HTZ.out];exact h.2.2.2.1))
    have b4:((tr.size:Int) != 32)=true:=by simp;omega
    clear e1 e2 e3 e4
    go_wp2_with fail
    go_meet
    exact⟨by rw[HN.out];rfl,rfl⟩
   have b4:((tr.size:Int) != 32)=false:=by simp;omega
   by_cases e5:ks=2
   rotate_left
   ·have HN:Hid (aP b=none):=by rw[Hid,HRQ.out];exact if_neg (fun h=>e5 h.2.2.2.2)
    have b5:((ks:Int) != 2)=true:=by simp;omega
    clear e1 e2 e3 e4 e5
    go_wp2_with fail
    go_meet
    exact⟨by rw[HN.out];rfl,rfl⟩
   have b5:((ks:Int) != 2)=false:=by simp;omega
   have HN:Hid (aP b=some ⟨bk p,bk q,aI r,aI s⟩):=by rw[Hid,HRQ.out];exact if_pos ⟨e1,e2,e3,by rw[<-HTZ.out];exact e4,e5⟩
   clear e1 e2 e3 e4 e5
   go_wp2_with fail
   go_meet
   exact⟨by rw[HN.out];rfl,rfl⟩
 case rest =>
 obtain⟨rfl,rfl⟩:=hcut
 cases hrl:aP b with
 | none =>
  have HN:=aa hrl
  clear hrl
  go_upto_region 3 with (fail)
  refine wp_region_list ?_
  refine dd (.agg gM.toArray) ?_
  simp only[Act.put,zp]
  refine wpList_store_row rfl 50 (.tmp 2) (.tmp 67) rfl X2 (gM.toArray) ?q1a ?q1b 50 _ HX.out (pz) rfl kr ?_
  case q1a=>rfl
  case q1b=>rfl
  go_wp2_with fail
  refine bodyPost_ret (di rfl _ _ X2 50 (gM.toArray) (0,0) _ rfl rfl (setRow_heap _ _ _ _ _ _ HX.out) Tryz.underlying50 (pz)) rfl ?_
  exact⟨.inr ⟨HN.out,rfl⟩,below_setRow HB4.out HX2.out _⟩
 | some x =>
  have h9:=HRR.out
  rw[hrl]at h9
  obtain⟨p,q,r,s,hd,hr32,rfl⟩:=xj h9
  rcases HK4.out with ⟨rfl,v,hd2,hvr⟩|⟨_,hd2⟩
  rotate_left
  ·rw[hd]at hd2;cases hd2
  obtain rfl:=Option.some.inj (hd.symm.trans hd2)
  have hvr:cu (fun q=>w1.heap.size<=q) (15+1) w4 [x0,x1,x2,x3] (.list [p,q,r,s]):=hvr
  simp only[cu]at hvr
  obtain⟨ga,gn,gc,hv4,hgc,_,hsl⟩:=hvr
  have hsl:Sl 4 (cu (fun q=>w1.heap.size<=q) 15) w4 ga gn [p,q,r,s]:=hsl
  simp only[List.cons.injEq,and_true]at hv4
  obtain⟨rfl,rfl,rfl,rfl⟩:=hv4
  obtain rfl:gn=4:=hsl.1.symm
  obtain⟨gg,go,rfl,_,_,_,_,p1,q1,r2,s2⟩:=oJ hsl
  obtain⟨_,f0,f1,f2,f3,_,_⟩:=aF (Below.refl _ w4) H4.out
  have hi1:=pw hd p (by simp)
  have hi2:=pw hd q (by simp)
  have hdl:=mt hd s (by simp)
  clear h9 hd hd2 hsl HRR HK4
  generalize bk p=P,bk q=Q,aI r=T,aI s=D at *
  have HREC:=aa hrl
  have HT:=aa hr32
  have HII:Hid (bQ P/\bQ Q):=⟨hi1,hi2⟩
  have HDL:Hid (D.length<=100000):=by have:=HL.out;show _<=_;omega
  clear hrl hr32 hi1 hi2 hdl f0 f1 f2
  go_upto_region 4 with (fail)
  go_cut [6] (fun s6 wx=>∃(X6 G dc:Nat),s6=.pointer (some ⟨X6,0,none⟩)/\w4.heap.size<=X6/\D.length<=dc/\ac wx X6 50 (ah ⟨P,Q,cG T 0,D⟩ (some ⟨G,0,none⟩) D.length dc)/\dq wx (some ⟨G,0,none⟩) D.length D/\Below w4.heap.size w4 wx)
  case first =>
   refine bA (fun W=>Below w4.heap.size w4 W) kr ?_
   change aW _ _ _ _ _ _ #[false,false,false,false,false,false,false,false,false,false,false,false,false,false,false,false,false,false,false] _ (World.drew w4)
   have hS:Below w4.heap.size w4 (World.drew w4):=(Below.refl _ _).drew
   generalize World.drew w4=y0 at *
   refine ay 0 68 (.pointer (some ⟨X4,3,none⟩)) rfl hS ?_
   try simp only[Act.put,zP]
   refine aZ 1 69 (.slice (some ⟨gg,go,none⟩) 4 gc) rfl (fun W h=>fj (.tmp 68) kr ⟨X4,3,none⟩ kr (ag h f3)) hS ?_
   try simp only[Act.put,zP]
   refine ay 2 70 (.pointer (some ⟨gg,go,none⟩)) rfl hS ?_
   try simp only[Act.put,zP]
   refine ay 3 71 (.pointer (some ⟨gg,go+1,none⟩)) rfl hS ?_
   try simp only[Act.put,zP]
   refine aZ 4 72 (.int .i64 P) rfl (fun W h=>gu (.tmp 71) kr ⟨gg,go+1,none⟩ kr (ag h p1)) hS ?_
   try simp only[Act.put,zP]
   refine ay 5 73 (.pointer (some ⟨X4,3,none⟩)) rfl hS ?_
   try simp only[Act.put,zP]
   refine aZ 6 74 (.slice (some ⟨gg,go,none⟩) 4 gc) rfl (fun W h=>fj (.tmp 73) kr ⟨X4,3,none⟩ kr (ag h f3)) hS ?_
   try simp only[Act.put,zP]
   refine ay 7 75 (.pointer (some ⟨gg,go+4,none⟩)) rfl hS ?_
   try simp only[Act.put,zP]
   refine ay 8 76 (.pointer (some ⟨gg,go+5,none⟩)) rfl hS ?_
   try simp only[Act.put,zP]
   refine aZ 9 77 (.int .i64 Q) rfl (fun W h=>gu (.tmp 76) kr ⟨gg,go+5,none⟩ kr (ag h q1)) hS ?_
   try simp only[Act.put,zP]
   refine ay 10 78 (.pointer (some ⟨X4,3,none⟩)) rfl hS ?_
   try simp only[Act.put,zP]
   refine aZ 11 79 (.slice (some ⟨gg,go,none⟩) 4 gc) rfl (fun W h=>fj (.tmp 78) kr ⟨X4,3,none⟩ kr (ag h f3)) hS ?_
   try simp only[Act.put,zP]
   refine ay 12 80 (.pointer (some ⟨gg,go+12,none⟩)) rfl hS ?_
   try simp only[Act.put,zP]
   refine ay 13 81 (.pointer (some ⟨gg,go+14,none⟩)) rfl hS ?_
   try simp only[Act.put,zP]
   refine aZ 14 82 (.string (aw D)) rfl (fun W h=>ms (.tmp 81) kr ⟨gg,go+14,none⟩ kr (ag h s2)) hS ?_
   try simp only[Act.put,zP]
   refine fJ 15 17 kr rfl rfl kr kr ?_ ?_
   ·skip
    obtain⟨y1,dc,hrun,hU,hslt,hdc,_⟩:=fK D D.length rfl y0
    obtain⟨G,hG⟩:=zg y0.heap.size
    rw[<-hG]at hrun hslt
    refine aO (w':=y1) (.slice (some ⟨G,0,none⟩) D.length dc) (dQ (.tmp 82) kr kr hrun) ?_
    have hS:=hS.trans (hU.mono hS.size)
    refine⟨hS,?_⟩
    try simp only[Act.put,zP]
    skip
    clear hrun hU hG
    refine ay 16 84 (.agg (ah ⟨P,Q,cG T 0,D⟩ (some ⟨G,0,none⟩) D.length dc).toArray) rfl hS ?_
    try simp only[Act.put,zP]
    refine aU 17 kr rfl kr ?_
    obtain⟨y2,hy2⟩:=zg (y1.alloc (.cells gM.toArray 50))
    obtain⟨X6,hX6⟩:=zg y1.heap.size
    refine aO (w':=y2) (.pointer (some ⟨X6,0,none⟩)) (by rw[hy2,hX6];kernel_rfl) ?_
    have hV:Below y1.heap.size y1 y2:=by rw[hy2];exact(Below.refl _ _).alloc (Nat.le_refl _) _
    have h6:ac y2 X6 50 gM:=by rw[hy2,hX6];exact ak _ rfl
    have hlo:w4.heap.size<=X6:=by rw[hX6];exact hS.size
    have hS:=hS.trans (hV.mono hS.size)
    refine⟨hS,?_⟩
    try simp only[Act.put,zP]
    have hslt:=hslt.below hV
    clear hy2 hX6 hV
    have hp32:(cG T 0).length=32:=kY HT.out om
    refine aU 18 kr rfl kr ?_
    refine wp_store_row 50 (.tmp 6) (.tmp 84) kr X6 (ah ⟨P,Q,cG T 0,D⟩ (some ⟨G,0,none⟩) D.length dc).toArray kr kr 50 _ h6 (ei (x:=⟨P,Q,cG T 0,D⟩) hp32 _ _ _) (mv (x:=⟨P,Q,cG T 0,D⟩) hp32 _ _ _) (bM _ _ _ _) ?_
    have hne:X6≠G:=fun e1=>by
     obtain⟨cs,fr,h1⟩:=hslt.2 _ rfl
     have h2:y2.heap[X6]? = some (.cells gM.toArray 50 (0,0)):=h6
     rw[e1,h1]at h2
     cases h2
    have hS9:Below w4.heap.size w4 (y2.setRow X6 (ah ⟨P,Q,cG T 0,D⟩ (some ⟨G,0,none⟩) D.length dc).toArray):=below_setRow hS hlo _
    refine⟨hS9,?_⟩
    try simp only[Act.put,zP]
    refine bp kr ?_
    have h69:ac (y2.setRow X6 (ah ⟨P,Q,cG T 0,D⟩ (some ⟨G,0,none⟩) D.length dc).toArray) X6 50 (ah ⟨P,Q,cG T 0,D⟩ (some ⟨G,0,none⟩) D.length dc):=setRow_heap _ _ _ _ _ _ h6
    have hsl9:dq (y2.setRow X6 (ah ⟨P,Q,cG T 0,D⟩ (some ⟨G,0,none⟩) D.length dc).toArray) (some ⟨G,0,none⟩) D.length D:=hslt.other (Ne.symm hne) _
    clear hS h6 hslt hp32 hne f3 p1 q1 r2 s2
    go_wp2_with fail
    go_meet
    exact⟨X6,G,dc,rfl,hlo,hdc,h69,hsl9,hS9⟩
   ·skip
    obtain⟨y1,hy1⟩:=zg (y0.alloc (.cells gM.toArray 50))
    obtain⟨X6,hX6⟩:=zg y0.heap.size
    refine aO (w':=y1) (.pointer (some ⟨X6,0,none⟩)) (by rw[hy1,hX6];kernel_rfl) ?_
    have hV:Below y0.heap.size y0 y1:=by rw[hy1];exact(Below.refl _ _).alloc (Nat.le_refl _) _
    have h6:ac y1 X6 50 gM:=by rw[hy1,hX6];exact ak _ rfl
    have hlo:w4.heap.size<=X6:=by rw[hX6];exact hS.size
    have hS:=hS.trans (hV.mono hS.size)
    refine⟨hS,?_⟩
    try simp only[Act.put,zP]
    skip
    clear hy1 hX6 hV
    refine aU 15 kr rfl kr ?_
    obtain⟨y2,dc,hrun,hU,hslt,hdc,_⟩:=fK D D.length rfl y1
    obtain⟨G,hG⟩:=zg y1.heap.size
    rw[<-hG]at hrun hslt
    refine aO (w':=y2) (.slice (some ⟨G,0,none⟩) D.length dc) (dQ (.tmp 82) kr kr hrun) ?_
    have hS:=hS.trans (hU.mono hS.size)
    refine⟨hS,?_⟩
    try simp only[Act.put,zP]
    have h6:=h6.below hU h6.lt
    clear hrun hU hG
    refine ay 16 84 (.agg (ah ⟨P,Q,cG T 0,D⟩ (some ⟨G,0,none⟩) D.length dc).toArray) rfl hS ?_
    try simp only[Act.put,zP]
    have hp32:(cG T 0).length=32:=kY HT.out om
    refine aU 18 kr rfl kr ?_
    refine wp_store_row 50 (.tmp 6) (.tmp 84) kr X6 (ah ⟨P,Q,cG T 0,D⟩ (some ⟨G,0,none⟩) D.length dc).toArray kr kr 50 _ h6 (ei (x:=⟨P,Q,cG T 0,D⟩) hp32 _ _ _) (mv (x:=⟨P,Q,cG T 0,D⟩) hp32 _ _ _) (bM _ _ _ _) ?_
    have hne:X6≠G:=fun e1=>by
     obtain⟨cs,fr,h1⟩:=hslt.2 _ rfl
     have h2:y2.heap[X6]? = some (.cells gM.toArray 50 (0,0)):=h6
     rw[e1,h1]at h2
     cases h2
    have hS9:Below w4.heap.size w4 (y2.setRow X6 (ah ⟨P,Q,cG T 0,D⟩ (some ⟨G,0,none⟩) D.length dc).toArray):=below_setRow hS hlo _
    refine⟨hS9,?_⟩
    try simp only[Act.put,zP]
    refine bp kr ?_
    have h69:ac (y2.setRow X6 (ah ⟨P,Q,cG T 0,D⟩ (some ⟨G,0,none⟩) D.length dc).toArray) X6 50 (ah ⟨P,Q,cG T 0,D⟩ (some ⟨G,0,none⟩) D.length dc):=setRow_heap _ _ _ _ _ _ h6
    have hsl9:dq (y2.setRow X6 (ah ⟨P,Q,cG T 0,D⟩ (some ⟨G,0,none⟩) D.length dc).toArray) (some ⟨G,0,none⟩) D.length D:=hslt.other (Ne.symm hne) _
    clear hS h6 hslt hp32 hne f3 p1 q1 r2 s2
    go_wp2_with fail
    go_meet
    exact⟨X6,G,dc,rfl,hlo,hdc,h69,hsl9,hS9⟩
  case rest =>
  obtain⟨X6,G,dc,rfl,hlo,hdc,h6,hsl6,hS6⟩:=hcut
  obtain⟨w6,hw6⟩:=zg wc
  rw[<-hw6]at h6 hsl6 hS6 ⊢
  clear hw6
  have H6:=aa h6
  have HSL:=aa hsl6
  have HS6:=aa hS6
  have HDC:=aa hdc
  have HLO:=aa hlo
  clear h6 hsl6 hS6 hdc hlo
  go_wp2_with fail
  go_loopw [7] (fun s7 wr=>∃i:Nat,i<=32/\s7=.int .i64 i/\ac wr X6 50 (ah ⟨P,Q,cG T i,D⟩ (some ⟨G,0,none⟩) D.length dc)/\dq wr (some ⟨G,0,none⟩) D.length D/\Below w4.heap.size w4 wr) (fun s7 _=>32-(intOf s7).toNat)
  case atStart=>exact⟨0,Nat.zero_le _,rfl,H6.out,HSL.out,HS6.out⟩
  case round =>
   clear H6 HSL HS6
   obtain⟨i,hi,rfl,h6,hslt,hS⟩:=hrel
   have H6:=aa h6
   have HSL:=aa hslt
   have HS6:=aa hS
   have i0:(0:Int)<=(i:Int):=om
   by_cases hlt:i<32
   ·obtain⟨y,hy⟩:=av HT.out hlt
    have i1:(i:Int)<32:=om
    have hpl:(cG T i).length=32:=kY HT.out hi
    have c3:=ag hS f3
    have c2:=ag hS r2
    obtain⟨u,hu⟩:∃u,(ah ⟨P,Q,cG T i,D⟩ (some ⟨G,0,none⟩) D.length dc)[2+i]? = some u:=av (bh (x:=⟨P,Q,cG T i,D⟩) hpl _ _ _) om
    have hcell:wr.cell? ⟨X6,2+i,none⟩=some u:=ac.cell h6 _ |>.trans hu
    have hfz:wr.frozen? ⟨X6,2+i,none⟩=false:=by
     have e9:wr.heap[X6]? = some (.cells (ah ⟨P,Q,cG T i,D⟩ (some ⟨G,0,none⟩) D.length dc).toArray 50 (0,0)):=h6
     simp[World.frozen?,e9]
    have hsome:(wr.cell? ⟨X6,2+i,none⟩).isSome=true:=by rw[hcell];rfl
    have HY:=aa hy
    clear h6 hslt hS hu hpl hy
    go_upto_region 8 with (fail)
    refine wp_region_list ?_
    refine dd (.int .i64 (i:Int)) ?_
    simp only[Act.put,zp]
    refine dd (.pointer (some ⟨X4,3,none⟩)) ?_
    simp only[Act.put,zp]
    refine fX (.slice (some ⟨gg,go,none⟩) 4 gc) (fj (.tmp 90) kr ⟨X4,3,none⟩ kr c3) ?_
    simp only[Act.put,zp]
    refine dd (.pointer (some ⟨gg,go+8,none⟩)) ?_
    simp only[Act.put,zp]
    refine dd (.pointer (some ⟨gg,go+10,none⟩)) ?_
    simp only[Act.put,zp]
    refine fX (.string (aw T)) (ms (.tmp 93) kr ⟨gg,go+10,none⟩ kr c2) ?_
    simp only[Act.put,zp]
    refine dd (.int .i64 (i:Int)) ?_
    simp only[Act.put,zp]
    refine fX (.int .u8 y.toNat) (zi (.tmp 94) (.tmp 95) kr T i y HY.out kr kr) ?_
    simp only[Act.put,zp]
    refine dd (.pointer (some ⟨X6,2,none⟩)) ?_
    simp only[Act.put,zp]
    refine fX (.pointer (some ⟨X6,2+i,none⟩)) (AZ (.tmp 97) (.tmp 89) kr X6 2 i kr kr hlt) ?_
    simp only[Act.put,zp]
    clear c2 c3
    go_wp2_with fail
    go_roundw
    case rel =>
     have h9:=ax (show wr.heap[X6]? = some (.cells (ah ⟨P,Q,cG T i,D⟩ (some ⟨G,0,none⟩) D.length dc).toArray 50 (0,0)) from H6.out) (2+i) (.int .u8 y.toNat)
     rw[xk HT.out HY.out]at h9
     have hm:az X6 wr (wr.setCell ⟨X6,2+i,none⟩ (.int .u8 y.toNat)):=(az.refl X6 wr).setCell rfl _
     refine⟨i+1,om,by go_num,h9,HSL.out.heap fun ad had => ?_,HS6.out.setCell (p:=⟨X6,2+i,none⟩) HLO.out _⟩
     cases had
     have hne:G≠X6:=fun e1=>by
      obtain⟨cs,fr,h1⟩:=HSL.out.2 _ rfl
      have h2:wr.heap[X6]? = some (.cells (ah ⟨P,Q,cG T i,D⟩ (some ⟨G,0,none⟩) D.length dc).toArray 50 (0,0)):=H6.out
      rw[<-e1,h1]at h2
      cases h2
     have hglt:G<wr.heap.size:=by
      obtain⟨cs,fr,h1⟩:=HSL.out.2 _ rfl
      exact lt_of_block h1
     exact hm.block G hglt hne
    case measure=>simp[intOf];omega
   ·obtain rfl:i=32:=om
    have h632:ac wr X6 50 (ah ⟨P,Q,T,D⟩ (some ⟨G,0,none⟩) D.length dc):=by
     have h9:=h6
     rw[zj HT.out]at h9
     exact h9
    have H632:=aa h632
    have HXF:=aa (HX.out.below hS HX.out.lt)
    have HBF:=aa (HB4.out.trans (hS.mono HB4.out.size))
    clear h6 hslt hS h632 H6 HX
    have HX:=HXF
    go_upto_region 9 with (fail)
    refine wp_region_list ?_
    refine fX (.agg (ah ⟨P,Q,T,D⟩ (some ⟨G,0,none⟩) D.length dc).toArray) (aH 50 (.tmp 6) rfl X6 0 rfl (ah ⟨P,Q,T,D⟩ (some ⟨G,0,none⟩) D.length dc) _ (ac.range H632.out) Tryz.underlying50 rfl (ej (x:=⟨P,Q,T,D⟩) HT.out _ _ _)) ?_
    simp only[Act.put,zp]
    refine wpList_store_row rfl 50 (.tmp 2) (.tmp 99) rfl X2 (ah ⟨P,Q,T,D⟩ (some ⟨G,0,none⟩) D.length dc).toArray ?q2a ?q2b 50 _ HX.out (ei (x:=⟨P,Q,T,D⟩) HT.out _ _ _) (mv (x:=⟨P,Q,T,D⟩) HT.out _ _ _) (bM _ _ _ _) ?_
    case q2a=>rfl
    case q2b=>rfl
    go_wp2_with fail
    refine bodyPost_ret (di rfl _ _ X2 50 ((ah ⟨P,Q,T,D⟩ (some ⟨G,0,none⟩) D.length dc).toArray) (0,0) _ rfl rfl (setRow_heap _ _ _ _ _ _ HX.out) Tryz.underlying50 (ei (x:=⟨P,Q,T,D⟩) HT.out _ _ _)) rfl ?_
    refine⟨.inl ⟨_,_,_,_,HREC.out,rfl,HT.out,HII.out,HDC.out,?_⟩,below_setRow HBF.out HX2.out _⟩
    have hne:G≠X2:=fun e1=>by
     obtain⟨cs,fr,h1⟩:=HSL.out.2 _ rfl
     have h2:wr.heap[X2]? = some (.cells gM.toArray 50 (0,0)):=HX.out
     rw[<-e1,h1]at h2
     cases h2
    exact HSL.out.other hne _
end Go.Proofs.YtmflnpdmlfmcpaaGreatDoor.Dr
