/- Joined texts. -/
import Derived.Test.YtmflnpdmlfmcpaaGreatDoorJp21
import Derived.Test.YtmflnpdmlfmcpaaGreatDoorJp26
import Derived.Test.YtmflnpdmlfmcpaaGreatDoorJp39
set_option maxRecDepth 100000
set_option maxHeartbeats 8000000
namespace Go.Proofs.YtmflnpdmlfmcpaaGreatDoor.Dr
open Go.RowKit Go.Shelf
theorem r9 {b:List UInt8}{x:ar}(h:aP b=some x):x.data.length<=b.length:=by
 cases hd:ct b with
 | none=>rw[lS hd]at h;cases h
 | some v =>
  cases v with
  | int m=>rw[mQ hd]at h;cases h
  | text t=>rw[lR hd]at h;cases h
  | list l =>
   by_cases hl:l.length=4
   ·match l,hl with
    | [p,q,r,s],_ =>
     rw[lQ hd]at h
     split at h
     ·cases h;exact mt hd s (by simp)
     ·cases h
   ·rw[mR hd hl]at h;cases h
theorem kf {B:Nat}:∀(rs:List (List UInt8)),(∀r ∈ rs,r.length<=B)->∀x ∈ (aK rs).1,x.data.length<=B
 | [],_,x,hx=>by cases hx
 | r::rs,hr,x,hx=>by
  have ih:=kf rs (fun q hq=>hr q (List.mem_cons_of_mem _ hq))
  have h:=dm (rs:=r::rs) (k:=0) (r:=r) rfl
  simp only[List.drop_zero,Nat.zero_add,List.drop_succ_cons]at h
  rw[h]at hx
  cases hl:aP r with
  | none=>rw[hl]at hx;cases hx
  | some y =>
   rw[hl]at hx
   rcases List.mem_cons.1 hx with rfl|hx
   ·exact Nat.le_trans (r9 hl) (hr r List.mem_cons_self)
   ·exact ih x hx
theorem jM {w:World}{base base':Nat}{e:TypeId}{size n:Nat}{v:Value}{xs:List Value}(h:w.ownsRow base e size v n xs)(hb:base'<=base):w.ownsRow base' e size v n xs:=by
 obtain⟨h1,h2⟩:=h
 refine⟨h1,?_⟩
 rcases h2 with h2|⟨g,cap,cur,rfl,h3,h4,h5⟩
 ·exact .inl h2
 ·exact .inr ⟨g,cap,cur,rfl,om,h4,h5⟩
theorem l4 {w w':World}{base:Nat}{e:TypeId}{size n:Nat}{v:Value}{xs:List Value}(h:w.ownsRow base e size v n xs)(hb:Below w.heap.size w w'):w'.ownsRow base e size v n xs:=
 cZ h fun g hg=>by obtain⟨cs,h1⟩:=tG h hg;exact hb.block g (lt_of_block h1)
theorem nG {w:World}{X:Nat}{t:TypeId}{vs:List Value}(h:ac w X t vs)(ht:t≠5)(u:Value):dL w (w.setCell ⟨X,0,none⟩ u):=fun k cs fr hk=>by
 refine Below.heap_setCell _ _ _ k ?_
 rintro rfl
 unfold ac at h
 rw[hk]at h
 cases h
 exact ht rfl
theorem pD {w:World}{X base:Nat}{t e:TypeId}{size n:Nat}{v:Value}{xs vs:List Value}(h:w.ownsRow base e size v n xs)(hx:ac w X t vs)(ht:t≠e)(u:Value):(w.setCell ⟨X,0,none⟩ u).ownsRow base e size v n xs:=
 cZ h fun g hg=>by
  refine Below.heap_setCell _ _ _ g ?_
  rintro rfl
  exact de h hx ht hg.symm
def mw (base:Nat)(e:Ending)(w:World)(r:List ar × Int):Prop:=∃va vn vc vs,e=.returned (.tuple #[.slice va vn vc,.int .i64 r.2])/\w.ownsRow base 50 35 (.slice va vn vc) vn vs/\dW 35 dZ w vs r.1
theorem sd {r:List ar × Int}{k:Int}(base:Nat)(w:World)(h:r=([],k)):mw base (.returned (.tuple #[.slice none 0 0,.int .i64 k])) w r:=by
 subst h
 exact⟨none,0,0,[],rfl,World.ownsRow_nil _ _ _ _,rfl,fun i x hx=>by simp at hx⟩
def aQ (rs:List (List UInt8)):List ar × Int:=if (aK rs).2=true/\bz (aK rs).1=0 then ((aK rs).1,0) else ([],500)
theorem nH (a:Option Addr)(n c:Nat)(p q:Int)(rs:List (List UInt8))(w:World)(hn:n<=100000)(hi:dV w)(h:Sl 1 gG w a n rs)(hd:∀r ∈ rs,r.length<=100000) :
  Calls Tryz.prog 24 #[.agg #[.slice a n c,.int .i64 p,.int .i64 q]] w fun e w'=>mw w.heap.size e w' (aQ rs)/\Below w.heap.size w w':=by
 have hmf:∀(fn:Fn) (first cap:Array Value) (w:World),(Instr.makeFunc fn first cap).run Tryz.prog w=.ok (.func fn first cap) w:=fun _ _ _ _=>rfl
 have H:=aa h
 have HN:=aa hn
 have HI:=aa hi
 have HD:=aa hd
 clear h hn hi hd
 go_enter_defers Tryz.func24,Tryz.ntmps24
 go_upto_region 2 with (fail)
 obtain⟨X1,hX1⟩:=zg w.heap.size
 obtain⟨X2,hX2⟩:=zg (w.heap.size+1)
 obtain⟨X3,hX3⟩:=zg (w.heap.size+2)
 obtain⟨w1,hw1⟩:=zg (((w.alloc (.cells #[.slice a n c,.int .i64 p,.int .i64 q] 24)).alloc (.cells #[.slice none 0 0] 30)).alloc (.cells #[.int .i64 0] 31))
 rw[<-hw1,<-hX3,<-hX2,<-hX1]
 have hB1:Below w.heap.size w w1:=by rw[hw1];exact(((Below.refl _ w).alloc (Nat.le_refl _) _).alloc (by simp) _).alloc (by simp;omega) _
 have h1:ac w1 X1 24 [.slice a n c,.int .i64 p,.int .i64 q]:=by rw[hw1,hX1];exact aB _ (aB _ (ak _ rfl))
 have h2:ac w1 X2 30 [.slice none 0 0]:=by rw[hw1,hX2];exact aB _ (ak _ (by simp))
 have h3:ac w1 X3 31 [.int .i64 0]:=by rw[hw1,hX3];exact ak _ (by simp)
 have hsz:w1.heap.size=w.heap.size+3:=by rw[hw1];simp
 have HX2:Hid (w.heap.size<=X2/\w.heap.size<=X3/\X2≠X3/\X2<w1.heap.size/\X3<w1.heap.size):=by show _/\_;omega
 obtain⟨_,b0,b1,b2,_,_,_⟩:=aJ (Below.refl _ w1) h1
 have hB2:Below w1.heap.size w1 (w1.alloc (.cells #[.slice a n c] 22)):=(Below.refl _ w1).alloc (Nat.le_refl _) _
 have hc2:(w1.alloc (.cells #[.slice a n c] 22)).cell? ⟨w1.heap.size,0,none⟩=some (.slice a n c):=by rw[dz _ _ rfl];rfl
 have HC:=aa (sO w1.heap.size a n c rs w _ (hB1.trans (hB2.mono hB1.size)) hc2 HN.out H.out HD.out)
 have HB1:=aa hB1
 have H2:=aa h2
 have H3:=aa h3
 have HB2:=aa hB2
 clear hw1 hX1 hX2 hX3 hB1 h1 h2 h3 hsz hB2 hc2
 go_wp2_with (first|(refine(wR a n c w1).mono ?_;rintro e w2 ⟨rfl,rfl⟩))
 refine HC.out.mono ?_
 rintro e w3 ⟨hres,hB3⟩
 have hB13:Below w1.heap.size w1 w3:=HB2.out.trans (hB3.mono HB2.out.size)
 have h23:ac w3 X2 30 [.slice none 0 0]:=H2.out.below hB13 H2.out.lt
 have h33:ac w3 X3 31 [.int .i64 0]:=H3.out.below hB13 H3.out.lt
 have hb3:Below w.heap.size w w3:=HB1.out.trans (hB13.mono HB1.out.size)
 have hI3:Hid (dV w3):=HI.out.below hb3
 clear HC hB3 hB13 HB2 H2 H3 b0 b1 b2
 rcases hres with ⟨hok,va,vn,vc,vs,rfl,hown,hfl⟩|⟨hbad,rfl⟩
 rotate_left
 ·have HK:Hid (aQ rs=([],500)):=by rw[Hid,aQ,if_neg (by rw[hbad];simp)]
  have HB:=aa hb3
  clear hbad hb3
  go_wp2_with fail
  refine leaves_cons (f:=58) (args:=#[.pointer (some ⟨X2,0,none⟩),.pointer (some ⟨X3,0,none⟩)]) (by simp) (by simp[go_sem]) ?_
  refine(yW X2 X3 [] w3 h23 h33 HX2.out.2.2.1).mono ?_
  rintro e u' w4 ⟨rfl,rfl,g2,g3,hb4⟩
  have HB4:=aa (HB.out.trans (hb4 _ HX2.out.1 HX2.out.2.1))
  have f2:w4.cell? ⟨X2,0,none⟩=some (.slice none 0 0):=by have:=ac.cell g2 0;simpa using this
  have f3:w4.cell? ⟨X3,0,none⟩=some (.int .i64 500):=by have:=ac.cell g3 0;simpa using this
  clear hb4 g2 g3 h23 h33
  simp[Leaves,settle,results,Tryz.results24,go_sem,f2,f3]
  exact⟨sd _ _ HK.out,HB4.out⟩
 have hvn:vn<=100000:=by
  have e1:=iP rs
  have e2:=jl.len hown hfl
  have e3:=H.out.1
  have e4:=HN.out
  omega
 have HOK:=aa hok
 have HOWN:=aa hown
 have HFL:=aa hfl
 have HB:=aa hb3
 have H23:=aa h23
 have H33:=aa h33
 have HVN:=aa hvn
 have c2:w3.cell? ⟨X2,0,none⟩=some (.slice none 0 0):=ac.cell h23 0
 have z2:=fV h23
 clear hok hown hfl hb3 hvn h23 h33
 obtain⟨w4,hw4⟩:=zg (w3.setCell ⟨X2,0,none⟩ (.slice va vn vc))
 go_upto_region 3 with (fail)
 rw[<-hw4]
 have h24:ac w4 X2 30 [.slice va vn vc]:=by rw[hw4];exact one_setCell H23.out
 have h34:ac w4 X3 31 [.int .i64 0]:=by rw[hw4];exact H33.out.setCell (p:=⟨X2,0,none⟩) HX2.out.2.2.1.symm _
 have hb4:Below w.heap.size w w4:=by rw[hw4];exact HB.out.setCell (p:=⟨X2,0,none⟩) HX2.out.1 _
 have hst:dL w3 w4:=by rw[hw4];exact nG H23.out (by decide) _
 have hown4:w4.ownsRow w.heap.size 50 35 (.slice va vn vc) vn vs:=by
  rw[hw4]
  exact pD (jM HOWN.out (by have:=HB1.out.size;simp;omega)) H23.out (by decide) _
 have hfl4:=dr HFL.out hst
 obtain⟨hvc4,hsl4⟩:=eB (by decide) hown4 (aK rs).1 (jl.len hown4 hfl4).symm (iD hfl4)
 have HCK:=aa (gI va vn vc (aK rs).1 w4 HVN.out hvc4 (HI.out.below hb4) hsl4 (kf rs HD.out))
 have f24:w4.cell? ⟨X2,0,none⟩=some (.slice va vn vc):=ac.cell h24 0
 obtain⟨k,hk⟩:=zg (bz (aK rs).1)
 rw[<-hk]at HCK
 have HKK:=aa hk
 have H24:=aa h24
 have H34:=aa h34
 have HB4:=aa hb4
 have HOWN4:=aa hown4
 have HFL4:=aa hfl4
 clear hst hown4 hfl4 hsl4 hvc4 h24 h34 hb4 hw4 hk H23 H33 HB c2 z2 HOWN HFL hI3
 go_wp2_with fail
 refine HCK.out.mono ?_
 rintro e w5 ⟨rfl,hB5⟩
 have hb5:Below w.heap.size w w5:=HB4.out.trans (hB5.mono HB4.out.size)
 have h25:ac w5 X2 30 [.slice va vn vc]:=H24.out.below hB5 H24.out.lt
 have h35:ac w5 X3 31 [.int .i64 0]:=H34.out.below hB5 H34.out.lt
 have hown5:=l4 HOWN4.out hB5
 have hfl5:=dr HFL4.out (.below hB5)
 have c2:w5.cell? ⟨X2,0,none⟩=some (.slice va vn vc):=ac.cell h25 0
 have z2:=fV h25
 have c3:w5.cell? ⟨X3,0,none⟩=some (.int .i64 0):=ac.cell h35 0
 have z3:=fV h35
 have H25:=aa h25
 have H35:=aa h35
 have HB5:=aa hb5
 have HOWN5:=aa hown5
 have HFL5:=aa hfl5
 clear HCK hB5 hb5 h25 h35 hown5 hfl5 HOWN4 HFL4 HB4 H24 H34 f24
 have hne:=HX2.out.2.2.1
 by_cases hk0:k=0
 ·have e1:(k == 0)=true:=by simpa using hk0
  have e1':(k != 0)=false:=by simpa using hk0
  have HK:Hid (aQ rs=((aK rs).1,0)):=by
   rw[Hid,aQ,if_pos ⟨HOK.out,by rw[<-HKK.out];exact hk0⟩]
  obtain⟨w7,hw7⟩:=zg ((w5.setCell ⟨X2,0,none⟩ (.slice va vn vc)).setCell ⟨X3,0,none⟩ (.int .i64 0))
  have h26:ac (w5.setCell ⟨X2,0,none⟩ (.slice va vn vc)) X2 30 [.slice va vn vc]:=one_setCell H25.out
  have h36:ac (w5.setCell ⟨X2,0,none⟩ (.slice va vn vc)) X3 31 [.int .i64 0]:=H35.out.setCell (p:=⟨X2,0,none⟩) HX2.out.2.2.1.symm _
  have h27:ac w7 X2 30 [.slice va vn vc]:=by rw[hw7];exact h26.setCell (p:=⟨X3,0,none⟩) HX2.out.2.2.1 _
  have h37:ac w7 X3 31 [.int .i64 0]:=by rw[hw7];exact one_setCell h36
  have hb7:Below w.heap.size w w7:=by rw[hw7];exact(HB5.out.setCell (p:=⟨X2,0,none⟩) HX2.out.1 _).setCell (p:=⟨X3,0,none⟩) HX2.out.2.1 _
  have f2:w7.cell? ⟨X2,0,none⟩=some (.slice va vn vc):=ac.cell h27 0
  have f3:w7.cell? ⟨X3,0,none⟩=some (.int .i64 0):=ac.cell h37 0
  have HOWN7:Hid (w7.ownsRow w.heap.size 50 35 (.slice va vn vc) vn vs):=by rw[hw7];exact pD (pD HOWN5.out H25.out (by decide) _) h36 (by decide) _
  have HFL7:Hid (dW 35 dZ w7 vs (aK rs).1):=by rw[hw7];exact dr (dr HFL5.out (nG H25.out (by decide) _)) (nG h36 (by decide) _)
  have HB7:=aa hb7
  clear h26 h36 h27 h37 hb7 H25 H35 HB5 HOWN5 HFL5
  go_wp2_with fail
  refine leaves_cons (f:=58) (args:=#[.pointer (some ⟨X2,0,none⟩),.pointer (some ⟨X3,0,none⟩)]) (by simp) (by simp[go_sem]) ?_
  refine(pZ X2 X3 _).mono ?_
  rintro e u' w9 ⟨rfl,rfl,rfl⟩
  rw[<-hw7]
  clear hw7
  simp[Leaves,settle,results,Tryz.results24,go_sem,f2,f3]
  exact⟨⟨va,vn,vc,vs,by rw[HK.out],HOWN7.out,by rw[HK.out];exact HFL7.out⟩,HB7.out⟩
 ·have e1:(k == 0)=false:=by simpa using hk0
  have e1':(k != 0)=true:=by simpa using hk0
  have HK:Hid (aQ rs=([],500)):=by
   rw[Hid,aQ,if_neg (fun h9=>hk0 (by rw[HKK.out];exact h9.2))]
  obtain⟨w7,hw7⟩:=zg ((w5.setCell ⟨X2,0,none⟩ (.slice none 0 0)).setCell ⟨X3,0,none⟩ (.int .i64 500))
  have h26:ac (w5.setCell ⟨X2,0,none⟩ (.slice none 0 0)) X2 30 [.slice none 0 0]:=one_setCell H25.out
  have h36:ac (w5.setCell ⟨X2,0,none⟩ (.slice none 0 0)) X3 31 [.int .i64 0]:=H35.out.setCell (p:=⟨X2,0,none⟩) HX2.out.2.2.1.symm _
  have h27:ac w7 X2 30 [.slice none 0 0]:=by rw[hw7];exact h26.setCell (p:=⟨X3,0,none⟩) HX2.out.2.2.1 _
  have h37:ac w7 X3 31 [.int .i64 500]:=by rw[hw7];exact one_setCell h36
  have hb7:Below w.heap.size w w7:=by rw[hw7];exact(HB5.out.setCell (p:=⟨X2,0,none⟩) HX2.out.1 _).setCell (p:=⟨X3,0,none⟩) HX2.out.2.1 _
  have f2:w7.cell? ⟨X2,0,none⟩=some (.slice none 0 0):=ac.cell h27 0
  have f3:w7.cell? ⟨X3,0,none⟩=some (.int .i64 500):=ac.cell h37 0
  have HB7:=aa hb7
  clear h26 h36 h27 h37 hb7 H25 H35 HB5 HOWN5 HFL5
  go_wp2_with fail
  refine leaves_cons (f:=58) (args:=#[.pointer (some ⟨X2,0,none⟩),.pointer (some ⟨X3,0,none⟩)]) (by simp) (by simp[go_sem]) ?_
  refine(pZ X2 X3 _).mono ?_
  rintro e u' w9 ⟨rfl,rfl,rfl⟩
  rw[<-hw7]
  clear hw7
  simp[Leaves,settle,results,Tryz.results24,go_sem,f2,f3]
  exact⟨sd _ _ HK.out,HB7.out⟩
end Go.Proofs.YtmflnpdmlfmcpaaGreatDoor.Dr
namespace Go.Proofs.YtmflnpdmlfmcpaaGreatDoor.Dr
open Go.RowKit
theorem ef (r:List UInt8)(rs:List (List UInt8)):aK (r::rs)=match aP r with
  | none=>([],false)
  | some x=>(x::(aK rs).1,(aK rs).2):=by
 have h:=dm (rs:=r::rs) (k:=0) (r:=r) rfl
 simp only[List.drop_zero,Nat.zero_add,List.drop_succ_cons]at h
 rw[h]
 cases aP r<;>rfl
theorem m6 {b:List UInt8}{x:ar}(hx:aP b=some x):∀(rs:List (List UInt8)),(aK rs).2=true->aK (rs++[b])=((aK rs).1++[x],true)
 | [],_=>by rw[List.nil_append,ef,hx];rfl
 | r::rs,h=>by
  rw[ef]at h
  rw[List.cons_append,ef,ef]
  cases hr:aP r with
  | none=>rw[hr]at h;cases h
  | some y =>
   rw[hr]at h
   simp only at h ⊢
   rw[m6 hx rs h]
   rfl
theorem k8 {rs:List (List UInt8)}{l:List ar}(h:aQ rs=(l,0)):aK rs=(l,true)/\bz l=0:=by
 unfold aQ at h
 split at h
 ·next h1 =>
  simp only[Prod.mk.injEq,and_true]at h
  rw[<-h]
  exact⟨by rw[<-h1.1],h1.2⟩
 ·simp at h
theorem nI {rs:List (List UInt8)}{l:List ar}(h:aK rs=(l,true))(hc:bz l=0):aQ rs=(l,0):=by
 unfold aQ
 rw[h,if_pos ⟨rfl,hc⟩]
theorem ve {rs:List (List UInt8)}{l:List ar}{b:List UInt8}{x:ar}(h:aQ rs=(l,0))(hx:aP b=some x)(hc:bz (l++[x])=0):aQ (rs++[b])=(l++[x],0):=by
 obtain⟨h1,_⟩:=k8 h
 refine nI ?_ hc
 rw[m6 hx rs (by rw[h1]),h1]
theorem vi {rs:List (List UInt8)}{l:List ar}(h1:aK rs=(l,true)):l.length=rs.length:=by
 induction rs generalizing l with
 | nil=>cases h1;rfl
 | cons r rs ih =>
  rw[ef]at h1
  cases hr:aP r with
  | none=>rw[hr]at h1;cases h1
  | some y =>
   rw[hr]at h1
   simp only[Prod.mk.injEq]at h1
   rw[<-h1.1,List.length_cons,List.length_cons,ih (Prod.ext rfl h1.2)]
theorem xK {rs:List (List UInt8)}{l:List ar}(h:aQ rs=(l,0)):l.length=rs.length:=vi (k8 h).1
end Go.Proofs.YtmflnpdmlfmcpaaGreatDoor.Dr
namespace Go.Proofs.YtmflnpdmlfmcpaaGreatDoor.Dr
open Go.RowKit Go.Shelf
def eS (d:aj):am × List ar × Int:=if (ci d).2=0 then (if (aQ (ci d).1.recs).2=0 then ((ci d).1,(aQ (ci d).1.recs).1,0) else (.zero,[],(aQ (ci d).1.recs).2)) else (.zero,[],(ci d).2)
def xL (B:Nat)(e:Ending)(w:World)(r:am × List ar × Int):Prop:=∃a n c vs va vn vc us,e=.returned (.tuple #[.agg #[.slice a n c,.int .i64 r.1.many,.int .i64 r.1.synced],.slice va vn vc,.int .i64 r.2.2])/\et B w a n c r.1 vs/\w.ownsRow B 50 35 (.slice va vn vc) vn us/\dW 35 dZ w us r.2.1
def cU (X:Nat)(w w':World):Prop:=∀g,g≠X->w'.heap[g]? = w.heap[g]?
theorem cq (w:World)(X:Nat)(v0 v1 v2:Value):cU X w (((w.setCell ⟨X,0,none⟩ v0).setCell ⟨X,1,none⟩ v1).setCell ⟨X,2,none⟩ v2):=fun g hg =>
 (Below.heap_setCell _ _ _ g (by simpa using hg)).trans ((Below.heap_setCell _ _ _ g (by simpa using hg)).trans (Below.heap_setCell _ _ _ g (by simpa using hg)))
theorem bX {w:World}{X:Nat}{t:TypeId}{u0 u1 u2:Value}(h:ac w X t [u0,u1,u2])(v0 v1 v2:Value):ac (((w.setCell ⟨X,0,none⟩ v0).setCell ⟨X,1,none⟩ v1).setCell ⟨X,2,none⟩ v2) X t [v0,v1,v2]:=by
 have:=ax (ax (ax (show w.heap[X]? = some (.cells #[u0,u1,u2] t (0,0)) from h) 0 v0) 1 v1) 2 v2
 simpa[ac] using this
theorem aY {w0 w:World}{B X:Nat}(h:Below B w0 w)(hX:B<=X)(v0 v1 v2:Value):Below B w0 (((w.setCell ⟨X,0,none⟩ v0).setCell ⟨X,1,none⟩ v1).setCell ⟨X,2,none⟩ v2):=
 ((h.setCell (p:=⟨X,0,none⟩) hX _).setCell (p:=⟨X,1,none⟩) hX _).setCell (p:=⟨X,2,none⟩) hX _
theorem nJ {w w':World}{X base:Nat}{e:TypeId}{size n:Nat}{v:Value}{xs:List Value}(h:w.ownsRow base e size v n xs)(ho:cU X w w')(hX:X<base\/∃t vs,t≠e/\ac w X t vs):w'.ownsRow base e size v n xs:=
 cZ h fun g hg=>ho g (by
  rintro rfl
  rcases hX with hX|⟨t,vs,ht,hr⟩
  ·have:=bU h _ hg;omega
  ·exact de h hr ht hg.symm)
theorem tO {us:List Value}{w w':World}{X B:Nat}{a:Option Addr}{n c:Nat}{j:am}{vs:List Value}(h:et B w a n c j vs)(ho:cU X w w')(hX:ac w X 24 us):et B w' a n c j vs:=
 ⟨nJ h.own ho (.inr ⟨_,_,by decide,hX⟩),⟨h.recs.1,fun i b hb=>by obtain⟨va,m,vc,h1,h2⟩:=h.recs.2 i b hb;exact⟨va,m,vc,h1,nJ h2 ho (.inr ⟨_,_,by decide,hX⟩)⟩⟩,h.m,h.s⟩
theorem zN {w w':World}{B:Nat}{a:Option Addr}{n c:Nat}{j:am}{vs:List Value}(h:et B w a n c j vs)(hb:Below w.heap.size w w'):et B w' a n c j vs:=
 ⟨l4 h.own hb,⟨h.recs.1,fun i b hi=>by obtain⟨va,m,vc,h1,h2⟩:=h.recs.2 i b hi;exact⟨va,m,vc,h1,l4 h2 hb⟩⟩,h.m,h.s⟩
theorem zO {w:World}{B B':Nat}{a:Option Addr}{n c:Nat}{j:am}{vs:List Value}(h:et B w a n c j vs)(hb:B'<=B):et B' w a n c j vs:=
 ⟨jM h.own hb,⟨h.recs.1,fun i b hi=>by obtain⟨va,m,vc,h1,h2⟩:=h.recs.2 i b hi;exact⟨va,m,vc,h1,jM h2 hb⟩⟩,h.m,h.s⟩
theorem dL.only {w w':World}{X:Nat}{t:TypeId}{vs:List Value}(ho:cU X w w')(h:ac w X t vs)(ht:t≠5):dL w w':=fun k cs fr hk=>ho k (by
 rintro rfl
 unfold ac at h
 rw[hk]at h
 cases h
 exact ht rfl)
theorem ic {Nz:Nat}{w:World}{a:Option Addr}{n:Nat}{rs:List (List UInt8)}(h:Sl 1 (aN Nz) w a n rs):Sl 1 gG w a n rs:=by
 refine⟨h.1,?_⟩
 rcases h.2 with h0|⟨b,off,ha,hc⟩
 ·exact .inl h0
 ·refine .inr ⟨b,off,ha,fun i x hx => ?_⟩
  obtain⟨vs,h1,⟨xa,xn,xc,h2,_,h3,h4,_⟩,h5⟩:=hc i x hx
  exact⟨vs,h1,⟨xa,xn,xc,h2,h3,h4⟩,h5⟩
theorem xM {Nz:Nat}(a1:Option Addr)(n1 c1:Nat)(a2:Option Addr)(n2 c2:Nat)(d:aj)(w:World)(hn:d.okB=true->n1<=100)(hi:dV w)(h:bF Nz w a1 n1 c1 a2 n2 c2 d) :
  Calls Tryz.prog 7 #[.agg #[.slice a1 n1 c1,.slice a2 n2 c2,.int .i64 d.left,.bool d.stopped]] w fun e w'=>xL w.heap.size e w' (eS d)/\Below w.heap.size w w':=by
 have HI:=aa hi
 have H:=aa h
 clear hi h
 have HO:Hid (∀W,Below w.heap.size w W->Calls Tryz.prog 23 #[.agg #[.slice a1 n1 c1,.slice a2 n2 c2,.int .i64 d.left,.bool d.stopped]] W fun e w'=>kz W.heap.size e w' (ci d).1 (ci d).2/\Below W.heap.size W w'):=fun W hW=>rN a1 n1 c1 a2 n2 c2 d W hn (H.out.below hW)
 obtain⟨dl,hdl⟩:=zg d.left
 obtain⟨ds,hds⟩:=zg d.stopped
 obtain⟨q,hq⟩:=zg (ci d)
 have HS:Hid (eS d=if q.2=0 then (if (aQ q.1.recs).2=0 then (q.1,(aQ q.1.recs).1,0) else (.zero,[],(aQ q.1.recs).2)) else (.zero,[],q.2)):=by rw[hq];exact rfl
 rw[<-hdl,<-hds,<-hq]at HO
 rw[<-hdl,<-hds]
 obtain⟨r,hr⟩:=zg (eS d)
 rw[<-hr]at HS ⊢
 clear hdl hds hq H hr hn
 go_enter Tryz.func7,Tryz.ntmps7
 go_upto_region 1 with (fail)
 obtain⟨X2,hX2⟩:=zg (w.heap.size+1)
 obtain⟨X1,hX1⟩:=zg w.heap.size
 obtain⟨w1,hw1⟩:=zg ((w.alloc (.cells #[.slice a1 n1 c1,.slice a2 n2 c2,.int .i64 dl,.bool ds] 27)).alloc (.cells #[.slice none 0 0,.int .i64 0,.int .i64 0] 24))
 rw[<-hw1,<-hX2,<-hX1]
 have hB1:Below w.heap.size w w1:=by rw[hw1];exact((Below.refl _ w).alloc (Nat.le_refl _) _).alloc (by simp) _
 have h1:ac w1 X1 27 [.slice a1 n1 c1,.slice a2 n2 c2,.int .i64 dl,.bool ds]:=by rw[hw1,hX1];exact aB _ (ak _ rfl)
 have h2:ac w1 X2 24 [.slice none 0 0,.int .i64 0,.int .i64 0]:=by rw[hw1,hX2];exact ak _ (by simp)
 have HX2:Hid (w.heap.size<=X2):=by show _<=_;omega
 have HB1:=aa hB1
 have H2:=aa h2
 obtain⟨_,b0,b1,b2,b3,_,_⟩:=aF (Below.refl _ w1) h1
 clear hw1 hX1 hX2 hB1 h1 h2
 go_wp2_with fail
 refine(HO.out w1 HB1.out).mono ?_
 rintro e w2 ⟨⟨a,n,c,vs,rfl,hown⟩,hB2⟩
 have h22:ac w2 X2 24 [.slice none 0 0,.int .i64 0,.int .i64 0]:=H2.out.below hB2 H2.out.lt
 have HB2:Hid (Below w.heap.size w w2):=HB1.out.trans (hB2.mono HB1.out.size)
 have HOWN:Hid (et w.heap.size w2 a n c q.1 vs):=zO hown HB1.out.size
 obtain⟨_,f0,f1,f2,_,_,_⟩:=aJ (Below.refl _ w2) h22
 have H22:=aa h22
 clear HO b0 b1 b2 b3 hB2 hown h22 H2 HB1
 obtain⟨qj,qe⟩:=q
 obtain⟨qr,qm,qs⟩:=qj
 simp only at HS HOWN ⊢
 go_upto_region 2 with (fail)
 obtain⟨w3,hw3⟩:=zg (((w2.setCell ⟨X2,0,none⟩ (.slice a n c)).setCell ⟨X2,1,none⟩ (.int .i64 qm)).setCell ⟨X2,2,none⟩ (.int .i64 qs))
 rw[<-hw3]
 have ho3:cU X2 w2 w3:=by rw[hw3];exact cq _ _ _ _ _
 have hr3:ac w3 X2 24 [.slice a n c,.int .i64 qm,.int .i64 qs]:=by rw[hw3];exact bX H22.out _ _ _
 have HBP:Hid (Below w.heap.size w w3):=by rw[hw3];exact aY HB2.out HX2.out _ _ _
 have HOWN3:=aa (tO HOWN.out ho3 H22.out)
 have HROW:=aa hr3
 clear hw3 ho3 HOWN H22 HB2 f0 f1 f2
 obtain⟨_,f0,f1,f2,_,_,_⟩:=aJ (Below.refl _ w3) hr3
 clear hr3
 by_cases he:qe=0
 rotate_left
 ·have e1:(qe == 0)=false:=by simpa using he
  have e1':(qe != 0)=true:=by simpa using he
  have HR:Hid (r=(am.zero,[],qe)):=by rw[Hid,HS.out,if_neg he]
  clear he HS
  obtain⟨wF,hwF⟩:=zg (((w3.setCell ⟨X2,0,none⟩ (.slice none 0 0)).setCell ⟨X2,1,none⟩ (.int .i64 0)).setCell ⟨X2,2,none⟩ (.int .i64 0))
  have hoF:cU X2 w3 wF:=by rw[hwF];exact cq _ _ _ _ _
  have hrF:ac wF X2 24 [.slice none 0 0,.int .i64 0,.int .i64 0]:=by rw[hwF];exact bX HROW.out _ _ _
  have hbF:Below w.heap.size w wF:=by rw[hwF];exact aY HBP.out HX2.out _ _ _
  go_wp2_with fail
  rw[<-hwF]
  obtain⟨_,g0,g1,g2,_,_,_⟩:=aJ (Below.refl _ wF) hrF
  clear hwF
  refine bodyPost_ret (by simp[results,Tryz.results7,go_sem,g0,g1,g2];try rfl) rfl ?_
  refine⟨⟨none,0,0,[],none,0,0,[],by rw[HR.out];rfl,by rw[HR.out];exact⟨World.ownsRow_nil _ _ _ _,⟨rfl,fun i b hb=>by simp[am.zero]at hb⟩,om,fun b hb=>by cases hb⟩,World.ownsRow_nil _ _ _ _,by rw[HR.out];exact⟨rfl,fun i x hx=>by simp at hx⟩⟩,hbF⟩
 have e1:(qe == 0)=true:=by simpa using he
 have e1':(qe != 0)=false:=by simpa using he
 subst he
 have hjr:=(HOWN3.out.jour (Nz:=0)).recs
 have hjs:=HOWN3.out.s
 have HK:=aa (nH a n c qm qs qr w3 (by have:=HOWN3.out.m;omega) (HI.out.below HBP.out) (ic hjr) hjs)
 obtain⟨kk,hkk⟩:=zg (aQ qr)
 have HS':Hid (r=if kk.2=0 then (⟨qr,qm,qs⟩,kk.1,0) else (.zero,[],kk.2)):=by rw[Hid,HS.out,if_pos rfl,hkk]
 rw[<-hkk]at HK
 obtain⟨kl,ke⟩:=kk
 simp only at HS'
 clear hkk hjr hjs HS
 go_wp2_with fail
 refine HK.out.mono ?_
 rintro e w4 ⟨⟨va,vn,vc,us,rfl,hown4,hfl4⟩,hB4⟩
 have hr4:ac w4 X2 24 [.slice a n c,.int .i64 qm,.int .i64 qs]:=HROW.out.below hB4 HROW.out.lt
 have HJ4:Hid (et w.heap.size w4 a n c ⟨qr,qm,qs⟩ vs):=zN HOWN3.out hB4
 have HO4:Hid (w4.ownsRow w.heap.size 50 35 (.slice va vn vc) vn us):=jM hown4 HBP.out.size
 have HF4:=aa hfl4
 have HBP4:Hid (Below w.heap.size w w4):=HBP.out.trans (hB4.mono HBP.out.size)
 clear HROW HBP HOWN3 HK hown4 hfl4 hB4 f0 f1 f2
 obtain⟨_,f0,f1,f2,_,_,_⟩:=aJ (Below.refl _ w4) hr4
 have HROW:=aa hr4
 have HBP:=HBP4
 clear hr4 HBP4
 by_cases hk:ke=0
 ·have k1:(ke == 0)=true:=by simpa using hk
  have k1':(ke != 0)=false:=by simpa using hk
  have HR:Hid (r=(⟨qr,qm,qs⟩,kl,0)):=by rw[Hid,HS'.out,if_pos hk]
  clear hk HS'
  obtain⟨wF,hwF⟩:=zg (((w4.setCell ⟨X2,0,none⟩ (.slice a n c)).setCell ⟨X2,1,none⟩ (.int .i64 qm)).setCell ⟨X2,2,none⟩ (.int .i64 qs))
  have hoF:cU X2 w4 wF:=by rw[hwF];exact cq _ _ _ _ _
  have hrF:ac wF X2 24 [.slice a n c,.int .i64 qm,.int .i64 qs]:=by rw[hwF];exact bX HROW.out _ _ _
  have hbF:Below w.heap.size w wF:=by rw[hwF];exact aY HBP.out HX2.out _ _ _
  go_wp2_with fail
  rw[<-hwF]
  obtain⟨_,g0,g1,g2,_,_,_⟩:=aJ (Below.refl _ wF) hrF
  clear hwF
  refine bodyPost_ret (by simp[results,Tryz.results7,go_sem,g0,g1,g2];try rfl) rfl ?_
  refine⟨⟨a,n,c,vs,va,vn,vc,us,by rw[HR.out],by rw[HR.out];exact tO HJ4.out hoF HROW.out,nJ HO4.out hoF (.inr ⟨_,_,by decide,HROW.out⟩),by rw[HR.out];exact dr HF4.out (.only hoF HROW.out (by decide))⟩,hbF⟩
 ·have k1:(ke == 0)=false:=by simpa using hk
  have k1':(ke != 0)=true:=by simpa using hk
  have HR:Hid (r=(am.zero,[],ke)):=by rw[Hid,HS'.out,if_neg hk]
  clear hk HS'
  obtain⟨wF,hwF⟩:=zg (((w4.setCell ⟨X2,0,none⟩ (.slice none 0 0)).setCell ⟨X2,1,none⟩ (.int .i64 0)).setCell ⟨X2,2,none⟩ (.int .i64 0))
  have hoF:cU X2 w4 wF:=by rw[hwF];exact cq _ _ _ _ _
  have hrF:ac wF X2 24 [.slice none 0 0,.int .i64 0,.int .i64 0]:=by rw[hwF];exact bX HROW.out _ _ _
  have hbF:Below w.heap.size w wF:=by rw[hwF];exact aY HBP.out HX2.out _ _ _
  go_wp2_with fail
  rw[<-hwF]
  obtain⟨_,g0,g1,g2,_,_,_⟩:=aJ (Below.refl _ wF) hrF
  clear hwF
  refine bodyPost_ret (by simp[results,Tryz.results7,go_sem,g0,g1,g2];try rfl) rfl ?_
  refine⟨⟨none,0,0,[],none,0,0,[],by rw[HR.out];rfl,by rw[HR.out];exact⟨World.ownsRow_nil _ _ _ _,⟨rfl,fun i b hb=>by simp[am.zero]at hb⟩,om,fun b hb=>by cases hb⟩,World.ownsRow_nil _ _ _ _,by rw[HR.out];exact⟨rfl,fun i x hx=>by simp at hx⟩⟩,hbF⟩
def iE (j:am)(d:aj):am × aj × Int:=if j.check=0 then (if (aQ j.recs).2=0 then cC j d else (.zero,.zero,(aQ j.recs).2)) else (.zero,.zero,j.check)
theorem l5 (w:World)(X:Nat)(v0 v1 v2 v3:Value):cU X w ((((w.setCell ⟨X,0,none⟩ v0).setCell ⟨X,1,none⟩ v1).setCell ⟨X,2,none⟩ v2).setCell ⟨X,3,none⟩ v3):=fun g hg =>
 (Below.heap_setCell _ _ _ g (by simpa using hg)).trans (cq w X v0 v1 v2 g hg)
theorem nK {w:World}{X:Nat}{t:TypeId}{u0 u1 u2 u3:Value}(h:ac w X t [u0,u1,u2,u3])(v0 v1 v2 v3:Value):ac ((((w.setCell ⟨X,0,none⟩ v0).setCell ⟨X,1,none⟩ v1).setCell ⟨X,2,none⟩ v2).setCell ⟨X,3,none⟩ v3) X t [v0,v1,v2,v3]:=by
 have:=ax (ax (ax (ax (show w.heap[X]? = some (.cells #[u0,u1,u2,u3] t (0,0)) from h) 0 v0) 1 v1) 2 v2) 3 v3
 simpa[ac] using this
theorem k9 {w0 w:World}{B X:Nat}(h:Below B w0 w)(hX:B<=X)(v0 v1 v2 v3:Value):Below B w0 ((((w.setCell ⟨X,0,none⟩ v0).setCell ⟨X,1,none⟩ v1).setCell ⟨X,2,none⟩ v2).setCell ⟨X,3,none⟩ v3):=
 (aY h hX v0 v1 v2).setCell (p:=⟨X,3,none⟩) hX _
theorem dR {w w':World}{X Y:Nat}{t:TypeId}{vs:List Value}(h:ac w Y t vs)(ho:cU X w w')(hne:Y≠X):ac w' Y t vs:=(ho Y hne).trans h
theorem dt {Nz:Nat}{w w':World}{X:Nat}{a:Option Addr}{n c:Nat}{j:am}{t:TypeId}{vs:List Value}(h:cg Nz w a n c j)(ho:cU X w w')(hs:w.heap.size<=w'.heap.size)(hX:Nz<=X)(hx:ac w X t vs)(ht:t=24\/t=27):cg Nz w' a n c j:=
 h.box hX hx (by rcases ht with rfl|rfl<;>decide) hs (fun b _ hb=>ho b hb)
theorem qg {Nz:Nat}{w w':World}{X:Nat}{a1 a2:Option Addr}{n1 c1 n2 c2:Nat}{d:aj}{t:TypeId}{vs:List Value}(h:bF Nz w a1 n1 c1 a2 n2 c2 d)(ho:cU X w w')(hs:w.heap.size<=w'.heap.size)(hX:Nz<=X)(hx:ac w X t vs)(ht:t=24\/t=27):bF Nz w' a1 n1 c1 a2 n2 c2 d:=
 h.box hX hx (by rcases ht with rfl|rfl<;>decide) hs (fun b _ hb=>ho b hb)
end Go.Proofs.YtmflnpdmlfmcpaaGreatDoor.Dr
