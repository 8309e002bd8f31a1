/- Joined texts. -/
import Derived.Test.YtmflnpdmlfmcpaaGreatDoorJp14
import Derived.Test.YtmflnpdmlfmcpaaGreatDoorJp16
set_option maxRecDepth 100000
set_option maxHeartbeats 8000000
namespace Go.Proofs.YtmflnpdmlfmcpaaGreatDoor.Dr
open Go.RowKit
theorem wO (a:Option Addr)(n c:Nat)(l:List UInt8)(w:World)(h:Sl 1 ai w a n l) :
  Calls Tryz.prog 73 #[.slice a n c] w fun e w'=>e=.returned (.agg #[.int .i64 2,.int .i64 0,.string (aw l),.slice none 0 0])/\Below w.heap.size w w':=by
 have hB:=(Below.refl _ w).alloc (Nat.le_refl _) (.cells #[.int .i64 0,.int .i64 0,.string ⟨#[]⟩,.slice none 0 0] 88)
 have hcv:=dB (c:=c) (h.below ai.keeps hB)
 clear hB
 go_enter Tryz.func73,Tryz.ntmps73
 go_wp2
 refine bodyPost_ret (by simp[results,Tryz.results73,go_sem];try rfl) rfl ?_
 exact⟨rfl,by go_grown⟩
theorem rt (n:Int)(w:World) :
  Calls Tryz.prog 74 #[.int .i64 n] w fun e w'=>e=.returned (.agg #[.int .i64 1,.int .i64 n,.string ⟨#[]⟩,.slice none 0 0])/\Below w.heap.size w w':=by
 go_enter Tryz.func74,Tryz.ntmps74
 go_wp2
 refine bodyPost_ret (by simp[results,Tryz.results74,go_sem];try rfl) rfl ?_
 exact⟨rfl,by go_grown⟩
theorem mq {o:Oper}{a:Act}{W:World}(x:Operand)(ho:o.op=.load 3 x)(p:Addr){v:Value}(hx:a.eval x=.pointer (some p))(hc:W.cell? p=some v):(execOp a.eval o).run Tryz.prog W=.ok (.value v) W:=by
 unfold execOp
 simp only[ho,hx]
 go_simp
theorem yT {o:Oper}{a:Act}{W:World}(x:Operand)(ho:o.op=.load 40 x)(p:Addr){v:Value}(hx:a.eval x=.pointer (some p))(hc:W.cell? p=some v):(execOp a.eval o).run Tryz.prog W=.ok (.value v) W:=by
 unfold execOp
 simp only[ho,hx]
 go_simp
theorem wP {o:Oper}{act:Act}{W:World}(p0 p1 p2 p3:Operand)(ho:o.op=.buildSlice 86 4 #[(0,p0),(1,p1),(2,p2),(3,p3)])(n k:Int)(s t:ByteArray)(h0:act.eval p0=.agg #[.int .i64 1,.int .i64 n,.string ⟨#[]⟩,.slice none 0 0])(h1:act.eval p1=.agg #[.int .i64 1,.int .i64 k,.string ⟨#[]⟩,.slice none 0 0])(h2:act.eval p2=.agg #[.int .i64 2,.int .i64 0,.string s,.slice none 0 0])(h3:act.eval p3=.agg #[.int .i64 2,.int .i64 0,.string t,.slice none 0 0]) :
  (execOp act.eval o).run Tryz.prog W=.ok (.value (.slice (some ⟨W.heap.size,0,none⟩) 4 4)) (W.alloc (.cells #[.int .i64 1,.int .i64 n,.string ⟨#[]⟩,.slice none 0 0,.int .i64 1,.int .i64 k,.string ⟨#[]⟩,.slice none 0 0,.int .i64 2,.int .i64 0,.string s,.slice none 0 0,.int .i64 2,.int .i64 0,.string t,.slice none 0 0] 88)):=by
 have h:(Instr.buildSlice 86 4 #[(0,.agg #[.int .i64 1,.int .i64 n,.string ⟨#[]⟩,.slice none 0 0]),(1,.agg #[.int .i64 1,.int .i64 k,.string ⟨#[]⟩,.slice none 0 0]),(2,.agg #[.int .i64 2,.int .i64 0,.string s,.slice none 0 0]),(3,.agg #[.int .i64 2,.int .i64 0,.string t,.slice none 0 0])]).run Tryz.prog W=.ok (.slice (some ⟨W.heap.size,0,none⟩) 4 4) (W.alloc (.cells #[.int .i64 1,.int .i64 n,.string ⟨#[]⟩,.slice none 0 0,.int .i64 1,.int .i64 k,.string ⟨#[]⟩,.slice none 0 0,.int .i64 2,.int .i64 0,.string s,.slice none 0 0,.int .i64 2,.int .i64 0,.string t,.slice none 0 0] 88)):=kr
 unfold execOp
 simp only[ho,List.map_toArray,List.map_cons,List.map_nil,h0,h1,h2,h3,Sem.run_bind,Sem.run_pure,Result.andThen_ok,h]
theorem oE {W:World}{X:Nat}{t:TypeId}{x:ar}{a:Option Addr}{n c:Nat}(h:ac W X t (ah x a n c))(hp:x.prev.length=32):Sl 1 ai W (some ⟨X,2,none⟩) 32 x.prev:=by
 refine⟨hp,.inr ⟨X,2,rfl,fun i b hb=>⟨[.int .u8 b.toNat],rfl,rfl,fun j v hv => ?_⟩⟩⟩
 match j,hv with
 | 0,hv =>
  cases hv
  have h1:=(ac.cell h (i+2)).trans (iN i b hb a n c)
  rw[Nat.mul_one,Nat.add_zero,Nat.add_comm 2 i]
  exact h1
theorem wQ {w:World}{b b':Nat}{e:TypeId}{size n:Nat}{v:Value}{xs:List Value}(h:w.ownsRow b e size v n xs)(hb:b'<=b):w.ownsRow b' e size v n xs:=by
 obtain⟨q1,q2⟩:=h
 refine⟨q1,?_⟩
 rcases q2 with q2|⟨g,cap,cur,q2,q3,q4⟩
 ·exact .inl q2
 ·exact .inr ⟨g,cap,cur,q2,Nat.le_trans hb q3,q4⟩
theorem oF (x:ar)(da:Option Addr)(dn dc:Nat)(w:World)(hp:x.prev.length=32)(h1:bQ x.node)(h2:bQ x.no)(hs:Sl 1 ai w da dn x.data)(hd:x.data.length<=100000)(E:List UInt8)(hE:aL (cM x)=E) :
  Calls Tryz.prog 35 #[.agg (ah x da dn dc).toArray] w fun e w'=>(∃va vc,e=.returned (.slice va E.length vc)/\w'.ownsRow w.heap.size 5 1 (.slice va E.length vc) E.length (af E))/\Below w.heap.size w w':=by
 have hEl:E.length<=200000:=by rw[<-hE];exact gJ x h1 h2 hp hd
 obtain⟨PA,hPA⟩:∃A,(ah x da dn dc).toArray=A:=⟨_,rfl⟩
 rw[hPA]
 have HPA:=aa hPA
 have HE:=aa hE
 have HEL:=aa hEl
 have HP:=aa hp
 have HI64:Hid (bQ x.node/\bQ x.no):=⟨h1,h2⟩
 have HSD0:=aa hs
 clear hPA hE hEl hp h1 h2 hs hd
 go_enter Tryz.func35,Tryz.ntmps35
 go_upto_region 3 with (fail)
 obtain⟨X,hX⟩:=zg w.heap.size
 obtain⟨w1,hw1⟩:=zg (w.alloc (.cells PA 50))
 rw[<-hw1,<-hX]
 have hB1:Below w.heap.size w w1:=by rw[hw1];exact(Below.refl _ _).alloc (Nat.le_refl _) _
 have hr1:ac w1 X 50 (ah x da dn dc):=by rw[hw1,hX];unfold ac;rw[HPA.out];exact ak _ rfl
 have HSD:=aa (HSD0.out.below ai.keeps hB1)
 clear hw1 hX HSD0
 have hS:ac (World.drew w1) X 50 (ah x da dn dc):=hr1
 have hT:Below w1.heap.size w1 (World.drew w1):=(Below.refl _ w1).drew
 clear hr1
 refine bA (fun W=>ac W X 50 (ah x da dn dc)) kr ?_
 change aW _ _ _ _ _ _ #[false,false,false,false,false,false,false,false,false,false,false,false,false,false,false,false,false,false,false,false,false,false,false,false] _ (World.drew w1)
 generalize World.drew w1=x0 at *
 refine ay 0 8 (.func (.func 74) #[] #[]) rfl hS ?_
 simp only[Act.put,zp]
 refine ay 1 9 (.pointer (some ⟨X,0,none⟩)) rfl hS ?_
 simp only[Act.put,zp]
 refine aZ 2 10 (.int .i64 x.node) rfl (fun W h=>mq (.tmp 9) kr ⟨X,0,none⟩ kr ((ac.cell h 0).trans (dj x da dn dc))) hS ?_
 simp only[Act.put,zp]
 refine ay 4 12 (.func (.func 74) #[] #[]) rfl hS ?_
 simp only[Act.put,zp]
 refine ay 5 13 (.pointer (some ⟨X,1,none⟩)) rfl hS ?_
 simp only[Act.put,zp]
 refine aZ 6 14 (.int .i64 x.no) rfl (fun W h=>mq (.tmp 13) kr ⟨X,1,none⟩ kr ((ac.cell h 1).trans (fi x da dn dc))) hS ?_
 simp only[Act.put,zp]
 refine ay 8 16 (.func (.func 73) #[] #[]) rfl hS ?_
 simp only[Act.put,zp]
 refine ay 9 17 (.pointer (some ⟨X,2,none⟩)) rfl hS ?_
 simp only[Act.put,zp]
 refine ay 10 18 (.slice (some ⟨X,2,none⟩) 32 32) rfl hS ?_
 simp only[Act.put,zp]
 refine ay 12 20 (.func (.func 73) #[] #[]) rfl hS ?_
 simp only[Act.put,zp]
 refine ay 13 21 (.pointer (some ⟨X,34,none⟩)) rfl hS ?_
 simp only[Act.put,zp]
 refine aZ 14 22 (.slice da dn dc) rfl (fun W h=>yT (.tmp 21) kr ⟨X,34,none⟩ kr ((ac.cell h 34).trans (em HP.out da dn dc))) hS ?_
 simp only[Act.put,zp]
 refine dk 3 11 (.agg #[.int .i64 1,.int .i64 x.node,.string ⟨#[]⟩,.slice none 0 0]) 74 #[.int .i64 x.node] kr rfl kr kr kr (rt x.node x0) (fun x1 hU=>⟨hS.below hU hS.lt,?_⟩)
 have hS:=hS.below hU hS.lt
 have hT:=hT.trans (hU.mono hT.size)
 clear hU
 simp only[Act.put,zp]
 refine dk 7 15 (.agg #[.int .i64 1,.int .i64 x.no,.string ⟨#[]⟩,.slice none 0 0]) 74 #[.int .i64 x.no] kr rfl kr kr kr (rt x.no x1) (fun x2 hU=>⟨hS.below hU hS.lt,?_⟩)
 have hS:=hS.below hU hS.lt
 have hT:=hT.trans (hU.mono hT.size)
 clear hU
 simp only[Act.put,zp]
 refine dk 11 19 (.agg #[.int .i64 2,.int .i64 0,.string (aw x.prev),.slice none 0 0]) 73 #[.slice (some ⟨X,2,none⟩) 32 32] kr rfl kr kr kr (wO (some ⟨X,2,none⟩) 32 32 x.prev x2 (oE hS HP.out)) (fun x3 hU=>⟨hS.below hU hS.lt,?_⟩)
 have hS:=hS.below hU hS.lt
 have hT:=hT.trans (hU.mono hT.size)
 clear hU
 simp only[Act.put,zp]
 refine dk 15 23 (.agg #[.int .i64 2,.int .i64 0,.string (aw x.data),.slice none 0 0]) 73 #[.slice da dn dc] kr rfl kr kr kr (wO da dn dc x.data x3 (HSD.out.below ai.keeps hT)) (fun x4 hU=>⟨hS.below hU hS.lt,?_⟩)
 have hS:=hS.below hU hS.lt
 have hT:=hT.trans (hU.mono hT.size)
 clear hU
 simp only[Act.put,zp]
 refine jF 16 24 (fun u w'=>u=.slice (some ⟨x4.heap.size,0,none⟩) 4 4/\w'=x4.alloc (.cells #[.int .i64 1,.int .i64 x.node,.string ⟨#[]⟩,.slice none 0 0,.int .i64 1,.int .i64 x.no,.string ⟨#[]⟩,.slice none 0 0,.int .i64 2,.int .i64 0,.string (aw x.prev),.slice none 0 0,.int .i64 2,.int .i64 0,.string (aw x.data),.slice none 0 0] 88)) kr rfl kr kr (fun K Q hK=>aO _ (wP (.tmp 11) (.tmp 15) (.tmp 19) (.tmp 23) kr x.node x.no (aw x.prev) (aw x.data) kr kr kr kr) (hK _ _ ⟨rfl,rfl⟩)) ?_
 rintro _ x5 ⟨rfl,hx5⟩
 have hU:Below x4.heap.size x4 x5:=by rw[hx5];exact(Below.refl _ _).alloc (Nat.le_refl _) _
 have hvr:VR 1 x5 [.int .i64 3,.int .i64 0,.string ⟨#[]⟩,.slice (some ⟨x4.heap.size,0,none⟩) 4 4] (cM x):=by rw[hx5];exact mj _ _ x HI64.out.1 HI64.out.2 (ak _ rfl)
 have hS:=hS.below hU hS.lt
 have hT:=hT.trans (hU.mono hT.size)
 refine⟨hS,?_⟩
 clear hx5 hU
 simp only[Act.put,zp]
 refine ay 17 25 (.agg #[.int .i64 3,.int .i64 0,.string ⟨#[]⟩,.slice (some ⟨x4.heap.size,0,none⟩) 4 4]) rfl hS ?_
 simp only[Act.put,zp]
 have hEN:=gP 1 om _ E HE.out _ _ _ _ x5 (by have:=HEL.out;omega) hvr
 refine jF 18 26 (fun v w'=>∃ea ec,v=.tuple #[.slice ea E.length ec,.int .i64 0]/\w'.ownsRow x5.heap.size 5 1 (.slice ea E.length ec) E.length (af E)/\Below x5.heap.size x5 w') kr rfl kr kr (fun K Q hK => ?hcall) ?_
 case hcall =>
  unfold Oper.wp
  rw[show (execOp (Act.eval _) _).run Tryz.prog x5=.ok (.enter 53 #[.agg #[.int .i64 3,.int .i64 0,.string ⟨#[]⟩,.slice (some ⟨x4.heap.size,0,none⟩) 4 4]]) x5 from by kernel_rfl]
  refine hEN.mono ?_
  rintro e w' ⟨⟨ea,ec,rfl,hown⟩,hBe⟩
  exact hK _ _ ⟨ea,ec,rfl,hown,hBe⟩
 rintro _ x6 ⟨ea,ec,rfl,hown,hU⟩
 have hS:=hS.below hU hS.lt
 have hT5:=hT
 have hT:=hT.trans (hU.mono hT.size)
 refine⟨hS,?_⟩
 clear hU hvr hEN
 simp only[Act.put,zp]
 refine ay 19 7 (.tuple #[.slice ea E.length ec,.int .i64 0]) rfl hS ?_
 simp only[Act.put,zp]
 refine ay 20 27 (.slice ea E.length ec) rfl hS ?_
 simp only[Act.put,zp]
 refine ay 21 28 (.int .i64 0) rfl hS ?_
 simp only[Act.put,zp]
 refine ay 22 5 (.slice ea E.length ec) rfl hS ?_
 simp only[Act.put,zp]
 refine ay 23 6 (.int .i64 0) rfl hS ?_
 simp only[Act.put,zp]
 refine bp kr ?_
 have HOWN:Hid (x6.ownsRow w.heap.size 5 1 (.slice ea E.length ec) E.length (af E)):=wQ hown (Nat.le_trans hB1.size hT5.size)
 have HT:=aa (hB1.trans (hT.mono hB1.size))
 clear hS hT hT5 hown hB1
 go_wp2_with fail
 go_ret
 exact⟨⟨ea,ec,rfl,HOWN.out⟩,HT.out⟩
end Go.Proofs.YtmflnpdmlfmcpaaGreatDoor.Dr
