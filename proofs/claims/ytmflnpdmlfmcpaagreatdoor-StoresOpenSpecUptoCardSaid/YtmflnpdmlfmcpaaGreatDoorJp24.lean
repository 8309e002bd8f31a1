/- Joined texts. -/
import Derived.Test.YtmflnpdmlfmcpaaGreatDoorJp16
set_option maxRecDepth 100000
set_option maxHeartbeats 16000000
namespace Go.Proofs.YtmflnpdmlfmcpaaGreatDoor.Dr
open Go.RowKit
theorem wY : ∃D:Array Value,D=(wl 64 []).toArray/\(Tryz.prog.info? 171).map (·.size)=some D.size/\D.all (·.oneCell')=true/\D.size=64:=⟨_,rfl,kr,kr,kr⟩
theorem rJ (s:S8):∃D:Array Value,D=(db s).toArray/\(Tryz.prog.info? 149).map (·.size)=some D.size/\D.all (·.oneCell')=true/\D.size=8:=⟨_,rfl,kr,by simp[db,Value.oneCell'],by rfl⟩
def BV : List Value:=[.int .u32 0,.int .u32 0,.int .u32 0,.int .u32 0,.int .u32 0,.int .u32 0,.int .u32 0,.int .u32 0]
structure fm (w:World)(S0 R0 A:Nat)(s:S8)(ws:List aX)(wr:World):Prop where
 sch:ac wr A 171 (wl 64 ws)
 st:ac wr S0 149 (db s)
 res:ac wr R0 149 BV
 below:Below w.heap.size w wr
theorem fm.keep {w:World}{S0 R0 A:Nat}{s:S8}{ws:List aX}{wr W:World}(h:fm w S0 R0 A s ws wr)(hb:Below wr.heap.size wr W):fm w S0 R0 A s ws W:=
 ⟨h.sch.below hb h.sch.lt,h.st.below hb h.st.lt,h.res.below hb h.res.lt,h.below.trans (hb.mono h.below.size)⟩
theorem fm.store {w:World}{S0 R0 A:Nat}{s:S8}{ws:List aX}{wr:World}(h:fm w S0 R0 A s ws wr)(x:aX)(hl:ws.length<64)(i:Nat)(hi:i=ws.length)(h1:S0≠A)(h2:R0≠A)(h3:w.heap.size<=A):fm w S0 R0 A s (ws++[x]) (wr.setCell ⟨A,i,none⟩ (.int .u32 (wv x))):=
 ⟨nm h.sch x hl i hi,h.st.setCell h1 _,h.res.setCell h2 _,h.below.setCell h3 _⟩
theorem wZ (b off n c:Nat)(s:S8)(l:List UInt8)(w:World)(hn:64<=n)(hc:n<=c)(hl:64<=l.length)
  (hb:∀i x,i<64->l[i]? = some x->w.cell? ⟨b,off+i,none⟩=some (.int .u8 x.toNat)) :
  Calls Tryz.prog 149 #[.agg (db s).toArray,.slice (some ⟨b,off,none⟩) n c] w fun e w'=>e=.returned (.agg (db (gS s l)).toArray)/\Below w.heap.size w w':=by
 have HB:=aa hb
 obtain⟨D,hD,hi,ho,hs⟩:=wY
 have HD:=aa hD
 have HI:=aa hi
 have HO:=aa ho
 have HS:=aa hs
 obtain⟨res,hres⟩:=zg (db (gS s l))
 rw[<-hres]
 have HRES:=aa hres
 clear hb hD hi ho hs hres
 unfold db
 go_enter Tryz.func149,Tryz.ntmps149
 go_upto_region 1 with (fail)
 obtain⟨S0,hS0⟩:=zg w.heap.size
 obtain⟨R0,hR0⟩:=zg (w.heap.size+1)
 have hr1:ac ((w.alloc (.cells #[.int .u32 (wv s.a),.int .u32 (wv s.b),.int .u32 (wv s.c),.int .u32 (wv s.d),.int .u32 (wv s.e),.int .u32 (wv s.f),.int .u32 (wv s.g),.int .u32 (wv s.h)] 149)).alloc (.cells zJ 149)) S0 149 (db s):=aB _ (ak _ hS0)
 have hr2:ac ((w.alloc (.cells #[.int .u32 (wv s.a),.int .u32 (wv s.b),.int .u32 (wv s.c),.int .u32 (wv s.d),.int .u32 (wv s.e),.int .u32 (wv s.f),.int .u32 (wv s.g),.int .u32 (wv s.h)] 149)).alloc (.cells zJ 149)) R0 149 BV:=ak _ (by rw[hR0];simp)
 have hB1:Below w.heap.size w ((w.alloc (.cells #[.int .u32 (wv s.a),.int .u32 (wv s.b),.int .u32 (wv s.c),.int .u32 (wv s.d),.int .u32 (wv s.e),.int .u32 (wv s.f),.int .u32 (wv s.g),.int .u32 (wv s.h)] 149)).alloc (.cells zJ 149)):=((Below.refl _ w).alloc (Nat.le_refl _) _).alloc (by simp) _
 rw[<-hR0,<-hS0]
 generalize (w.alloc (.cells #[.int .u32 (wv s.a),.int .u32 (wv s.b),.int .u32 (wv s.c),.int .u32 (wv s.d),.int .u32 (wv s.e),.int .u32 (wv s.f),.int .u32 (wv s.g),.int .u32 (wv s.h)] 149)).alloc (.cells zJ 149)=w1 at *
 have hRw:w.heap.size<=R0:=om
 clear hS0 hR0
 have HR1:=aa hr1
 have HR2:=aa hr2
 have hl1:=hr1.lt
 have hl2:=hr2.lt
 clear hr1 hr2
 go_upto_region 2 with (first
  | (refine eR rfl 171 _ rfl D (by rw[HD.out];kernel_rfl) ?_;simp only[Act.put,zA])
  | (refine wpList_store_row rfl 171 (.tmp 5) (.tmp 22) rfl w1.heap.size D ?e1 ?e2 171 zG (heap_alloc_new w1 _) HI.out ?e3 HO.out ?_;(case e1=>rfl);(case e2=>rfl);(case e3=>exact HS.out.symm)))
 obtain⟨A,hA⟩:=zg w1.heap.size
 have hI:fm w S0 R0 A s (dD l 0) ((w1.alloc (.cells zG 171)).setRow w1.heap.size D):=by
  have hbn:Below w1.heap.size w1 ((w1.alloc (.cells zG 171)).setRow w1.heap.size D):=bf w1 _ D
  refine⟨?_,HR1.out.below hbn hl1,HR2.out.below hbn hl2,hB1.trans (hbn.mono hB1.size)⟩
  have h1:=setRow_heap (w1.alloc (.cells zG 171)) w1.heap.size _ D _ _ (heap_alloc_new w1 _)
  unfold ac
  rw[hA,h1,HD.out]
  rfl
 have h1A:S0≠A:=om
 have h2A:R0≠A:=om
 have h3A:w.heap.size<=A:=by have:=hB1.size;omega
 rw[<-hA]at hI ⊢
 generalize (w1.alloc (.cells zG 171)).setRow A D=w2 at *
 clear hA hB1 HR1 HR2 hl1 hl2
 go_wp2_with fail
 go_loopw [6] (fun s6 wr=>∃k:Nat,k<=16/\s6=.int .i64 k/\fm w S0 R0 A s (dD l k) wr) (fun s6 _=>16-(intOf s6).toNat)
 case atStart=>exact⟨0,om,rfl,hI⟩
 case round =>
  clear hI
  obtain⟨k,hk,rfl,hI⟩:=hrel
  by_cases hlt:k<16
  ·obtain⟨x0,e0⟩:∃x,l[4*k]? = some x:=⟨_,List.getElem?_eq_getElem om⟩
   obtain⟨x1,e1⟩:∃x,l[4*k+1]? = some x:=⟨_,List.getElem?_eq_getElem om⟩
   obtain⟨x2,e2⟩:∃x,l[4*k+2]? = some x:=⟨_,List.getElem?_eq_getElem om⟩
   obtain⟨x3,e3⟩:∃x,l[4*k+3]? = some x:=⟨_,List.getElem?_eq_getElem om⟩
   have c0:=ag hI.below (HB.out _ _ om e0)
   have c1:=ag hI.below (HB.out _ _ om e1)
   have c2:=ag hI.below (HB.out _ _ om e2)
   have c3:=ag hI.below (HB.out _ _ om e3)
   have hwd:gR x0 x1 x2 x3=gl l k:=by simp[gl,List.getD_eq_getElem?_getD,e0,e1,e2,e3]
   have HWD:=aa hwd
   have HC:=aa (yP b (off+4*k) 4 (c-4*k) x0 x1 x2 x3 wr om om (by first|exact c0|simpa using c0) (by rw[Nat.add_assoc];exact c1) (by rw[Nat.add_assoc];exact c2) (by rw[Nat.add_assoc];exact c3))
   rw[hwd]at HC
   clear hwd e0 e1 e2 e3 c0 c1 c2 c3
   have HII:=aa hI
   clear hI
   have k0:(0:Int)<=4*(k:Int):=om
   have k1:4*(k:Int)+4<=(c:Int):=om
   have k2:¬(c:Int)=4*(k:Int):=om
   go_wp2_with fail
   refine HC.out.mono ?_
   rintro e w3 ⟨rfl,hS⟩
   have hI:=HII.out.keep hS
   have hcA:w3.cell? ⟨A,k,none⟩=some (.int .u32 0):=(ac.cell hI.sch _).trans (mi (by rw[ex];exact Nat.le_refl _) om)
   have hfz:w3.frozen? ⟨A,k,none⟩=false:=frozen_of_row _ _ _ _ _ hI.sch
   have hst:=hI.store (gl l k) (by rw[ex];omega) k (by rw[ex]) h1A h2A h3A
   rw[<-n7]at hst
   have HST:=aa hst
   clear hI hst hS HC HII k0 k1 k2
   go_wp2
   go_roundw
   case rel=>exact⟨k+1,om,by go_num,HST.out⟩
   case measure=>simp[intOf];omega
  ·have HII:Hid (fm w S0 R0 A s (dD l 16) wr):=by rw[show 16=k by omega];exact hI
   have kge:¬(k:Int)<16:=om
   clear hI hk hlt
   go_wp2_with fail
   clear kge
   obtain⟨wo,rfl⟩:∃wo:World,wo=wr:=⟨_,rfl⟩
   go_loopw [7] (fun s7 wr=>∃k:Nat,16<=k/\k<=64/\s7=.int .i64 k/\fm w S0 R0 A s (cJ (dD l 16) (k-16)) wr) (fun s7 _=>64-(intOf s7).toNat)
   case atStart=>exact⟨16,om,om,rfl,HII.out⟩
   case round =>
    clear HII
    obtain⟨k,hk1,hk2,rfl,hI⟩:=hrel
    have hwl:(cJ (dD l 16) (k-16)).length=k:=by rw[lD (ex l 16)];omega
    by_cases hlt:k<64
    ·have hsucc:cJ (dD l 16) (k+1-16)=cJ (dD l 16) (k-16)++[mg (cJ (dD l 16) (k-16)) k]:=by
      rw[show k+1-16=(k-16)+1 by omega]
      simp only[cJ]
      rw[show 16+(k-16)=k by omega]
     obtain⟨ws,hws⟩:=zg (cJ (dD l 16) (k-16))
     rw[<-hws]at hI hwl hsucc
     have HWL:=aa hwl
     obtain⟨x,hx⟩:=zg (ws.getD (k-15) 0)
     obtain⟨y,hy⟩:=zg (ws.getD (k-2) 0)
     obtain⟨p,hp⟩:=zg (ws.getD (k-16) 0)
     obtain⟨q,hq⟩:=zg (ws.getD (k-7) 0)
     have HCX:Hid (∀W,fm w S0 R0 A s ws W->W.cell? ⟨A,k-15,none⟩=some (.int .u32 (wv x))):=fun W h=>by rw[hx];exact(ac.cell h.sch _).trans (fy om)
     have HCY:Hid (∀W,fm w S0 R0 A s ws W->W.cell? ⟨A,k-2,none⟩=some (.int .u32 (wv y))):=fun W h=>by rw[hy];exact(ac.cell h.sch _).trans (fy om)
     have HCP:Hid (∀W,fm w S0 R0 A s ws W->W.cell? ⟨A,k-16,none⟩=some (.int .u32 (wv p))):=fun W h=>by rw[hp];exact(ac.cell h.sch _).trans (fy om)
     have HCQ:Hid (∀W,fm w S0 R0 A s ws W->W.cell? ⟨A,k-7,none⟩=some (.int .u32 (wv q))):=fun W h=>by rw[hq];exact(ac.cell h.sch _).trans (fy om)
     have HNX:Hid (mg ws k=p+(aE x 7 ^^^ aE x 18 ^^^ (x >>> 3))+q+(aE y 17 ^^^ aE y 19 ^^^ (y >>> 10))):=by rw[Hid,hx,hy,hp,hq];rfl
     have HSU:Hid (cJ (dD l 16) (k+1-16)=ws++[p+(aE x 7 ^^^ aE x 18 ^^^ x >>> 3)+q+(aE y 17 ^^^ aE y 19 ^^^ y >>> 10)]):=by rw[Hid,hsucc,HNX.out]
     clear hws hwl hsucc hx hy hp hq
     have klt:(k:Int)<64:=om
     go_upto_region 9 with (fail)
     refine wp_region_list ?_
     change wpList _ _ _ _ _ _
     refine cI (.int .i64 k) ?_
     simp only[Act.put,zp]
     refine ed (.int .i64 ((k-15:Nat):Int)) (ox (.tmp 41) 15 kr k (k-15) kr om om om) ?_
     simp only[Act.put,zp]
     refine ed (.pointer (some ⟨A,k-15,none⟩)) (kU (.tmp 5) (.tmp 42) kr A (k-15) kr kr om) ?_
     simp only[Act.put,zp]
     refine ed (.int .u32 (wv (x))) (cP (.tmp 43) kr ⟨A,k-15,none⟩ kr (HCX.out _ hI)) ?_
     simp only[Act.put,zp]
     refine cI (.int .u32 (wv (x))) ?_
     simp only[Act.put,zp]
     refine wpList_nil ?_
     go_upto_region 10 with (fail)
     refine wp_region_list ?_
     change wpList _ _ _ _ _ _
     refine cI (.int .i64 k) ?_
     simp only[Act.put,zp]
     refine ed (.int .i64 ((k-2:Nat):Int)) (ox (.tmp 45) 2 kr k (k-2) kr om om om) ?_
     simp only[Act.put,zp]
     refine ed (.pointer (some ⟨A,k-2,none⟩)) (kU (.tmp 5) (.tmp 46) kr A (k-2) kr kr om) ?_
     simp only[Act.put,zp]
     refine ed (.int .u32 (wv (y))) (cP (.tmp 47) kr ⟨A,k-2,none⟩ kr (HCY.out _ hI)) ?_
     simp only[Act.put,zp]
     refine cI (.int .u32 (wv (y))) ?_
     simp only[Act.put,zp]
     refine wpList_nil ?_
     go_upto_region 11 with (fail)
     refine bZ (fm w S0 R0 A s ws) 29 kr ?_
     change bT _ _ _ _ _ _ _ _ _ (World.drew wr)
     have hI':fm w S0 R0 A s ws (World.drew wr):=hI.keep ((Below.refl _ wr).drew)
     clear hI
     have hI:=hI'
     clear hI'
     generalize World.drew wr=v0 at *
     refine fp 0 (.int .i64 k) rfl hI ?_
     simp only[Act.put,zA]
     refine fp 1 (.int .i64 k) rfl hI ?_
     simp only[Act.put]
     refine eL 2 (.int .i64 ((k-16:Nat):Int)) rfl (fun W hW=>ox (.tmp 50) 16 kr k (k-16) kr om om om) hI ?_
     simp only[Act.put]
     refine eL 3 (.pointer (some ⟨A,k-16,none⟩)) rfl (fun W hW=>kU (.tmp 5) (.tmp 51) kr A (k-16) kr kr om) hI ?_
     simp only[Act.put]
     refine eL 4 (.int .u32 (wv (p))) rfl (fun W hW=>cP (.tmp 52) kr ⟨A,k-16,none⟩ kr (HCP.out _ hW)) hI ?_
     simp only[Act.put]
     refine fp 5 (.int .u32 (wv (x))) rfl hI ?_
     simp only[Act.put]
     refine fp 7 (.int .u32 (wv (x))) rfl hI ?_
     simp only[Act.put]
     refine fp 10 (.int .u32 (wv (x))) rfl hI ?_
     simp only[Act.put]
     refine eL 11 (.int .u32 (wv (x >>> 3))) rfl (fun W hW=>wL (.tmp 59) 3 (.inl rfl) kr x kr) hI ?_
     simp only[Act.put]
     refine fp 14 (.int .i64 k) rfl hI ?_
     simp only[Act.put]
     refine eL 15 (.int .i64 ((k-7:Nat):Int)) rfl (fun W hW=>ox (.tmp 63) 7 kr k (k-7) kr om om om) hI ?_
     simp only[Act.put]
     refine eL 16 (.pointer (some ⟨A,k-7,none⟩)) rfl (fun W hW=>kU (.tmp 5) (.tmp 64) kr A (k-7) kr kr om) hI ?_
     simp only[Act.put]
     refine eL 17 (.int .u32 (wv (q))) rfl (fun W hW=>cP (.tmp 65) kr ⟨A,k-7,none⟩ kr (HCQ.out _ hW)) hI ?_
     simp only[Act.put]
     refine fp 19 (.int .u32 (wv (y))) rfl hI ?_
     simp only[Act.put]
     refine fp 21 (.int .u32 (wv (y))) rfl hI ?_
     simp only[Act.put]
     refine fp 24 (.int .u32 (wv (y))) rfl hI ?_
     simp only[Act.put]
     refine eL 25 (.int .u32 (wv (y >>> 10))) rfl (fun W hW=>wL (.tmp 73) 10 (.inr rfl) kr y kr) hI ?_
     simp only[Act.put]
     refine aC 6 kr rfl rfl ?_
     refine im 151 #[.int .u32 (wv x),.int .i64 7] kr ?_
     refine(Cn x v0).mono ?_
     rintro e v1 ⟨rfl,hS⟩
     have hI':=hI.keep hS
     clear hI hS
     have hI:=hI'
     clear hI'
     refine⟨_,rfl,.inr hI,?_⟩
     simp only[Act.put]
     refine aC 8 kr rfl rfl ?_
     refine im 151 #[.int .u32 (wv x),.int .i64 18] kr ?_
     refine(BN x v1).mono ?_
     rintro e v2 ⟨rfl,hS⟩
     have hI':=hI.keep hS
     clear hI hS
     have hI:=hI'
     clear hI'
     refine⟨_,rfl,.inr hI,?_⟩
     simp only[Act.put]
     refine eL 9 (.int .u32 (wv (aE x 7 ^^^ aE x 18))) rfl (fun W hW=>fF (.tmp 55) (.tmp 57) kr _ _ kr kr) hI ?_
     simp only[Act.put]
     refine eL 12 (.int .u32 (wv (aE x 7 ^^^ aE x 18 ^^^ x >>> 3))) rfl (fun W hW=>fF (.tmp 58) (.tmp 60) kr (aE x 7 ^^^ aE x 18) (x >>> 3) kr kr) hI ?_
     simp only[Act.put]
     refine eL 13 (.int .u32 (wv (p+(aE x 7 ^^^ aE x 18 ^^^ x >>> 3)))) rfl (fun W hW=>dw (.tmp 53) (.tmp 61) kr p (aE x 7 ^^^ aE x 18 ^^^ x >>> 3) kr kr) hI ?_
     simp only[Act.put]
     refine eL 18 (.int .u32 (wv (p+(aE x 7 ^^^ aE x 18 ^^^ x >>> 3)+q))) rfl (fun W hW=>dw (.tmp 62) (.tmp 66) kr (p+(aE x 7 ^^^ aE x 18 ^^^ x >>> 3)) q kr kr) hI ?_
     simp only[Act.put]
     refine aC 20 kr rfl rfl ?_
     refine im 151 #[.int .u32 (wv y),.int .i64 17] kr ?_
     refine(BM y v2).mono ?_
     rintro e v3 ⟨rfl,hS⟩
     have hI':=hI.keep hS
     clear hI hS
     have hI:=hI'
     clear hI'
     refine⟨_,rfl,.inr hI,?_⟩
     simp only[Act.put]
     refine aC 22 kr rfl rfl ?_
     refine im 151 #[.int .u32 (wv y),.int .i64 19] kr ?_
     refine(BO y v3).mono ?_
     rintro e v4 ⟨rfl,hS⟩
     have hI':=hI.keep hS
     clear hI hS
     have hI:=hI'
     clear hI'
     refine⟨_,rfl,.inr hI,?_⟩
     simp only[Act.put]
     refine eL 23 (.int .u32 (wv (aE y 17 ^^^ aE y 19))) rfl (fun W hW=>fF (.tmp 69) (.tmp 71) kr (aE y 17) (aE y 19) kr kr) hI ?_
     simp only[Act.put]
     refine eL 26 (.int .u32 (wv (aE y 17 ^^^ aE y 19 ^^^ y >>> 10))) rfl (fun W hW=>fF (.tmp 72) (.tmp 74) kr (aE y 17 ^^^ aE y 19) (y >>> 10) kr kr) hI ?_
     simp only[Act.put]
     refine eL 27 (.int .u32 (wv (p+(aE x 7 ^^^ aE x 18 ^^^ x >>> 3)+q+(aE y 17 ^^^ aE y 19 ^^^ y >>> 10)))) rfl (fun W hW=>dw (.tmp 67) (.tmp 75) kr (p+(aE x 7 ^^^ aE x 18 ^^^ x >>> 3)+q) (aE y 17 ^^^ aE y 19 ^^^ y >>> 10) kr kr) hI ?_
     simp only[Act.put]
     refine eL 28 (.pointer (some ⟨A,k,none⟩)) rfl (fun W hW=>kU (.tmp 5) (.tmp 49) kr A k kr kr hlt) hI ?_
     simp only[Act.put]
     have hcA:v4.cell? ⟨A,k,none⟩=some (.int .u32 0):=(ac.cell hI.sch _).trans (mi (by rw[HWL.out];exact Nat.le_refl _) om)
     have hfz:v4.frozen? ⟨A,k,none⟩=false:=frozen_of_row _ _ _ _ _ hI.sch
     have hst:=hI.store (p+(aE x 7 ^^^ aE x 18 ^^^ x >>> 3)+q+(aE y 17 ^^^ aE y 19 ^^^ y >>> 10)) (by rw[HWL.out];exact hlt) k HWL.out.symm h1A h2A h3A
     rw[<-HSU.out]at hst
     have HST:=aa hst
     clear hI hst
     refine aC 29 kr rfl rfl ?_
     unfold Oper.wp
     go_simp
     refine cV kr ?_
     clear hcA hfz
     go_wp2
     go_roundw
     case rel=>exact⟨k+1,om,om,by go_num,HST.out⟩
     case measure=>simp[intOf];omega
    ·have HII:Hid (fm w S0 R0 A s (cK l) wr):=by
      have:k=64:=om
      subst this
      exact hI
     have kge:¬(k:Int)<64:=om
     clear hI hwl hk1 hk2 hlt
     go_wp2_with fail
     clear kge
     refine(sL wr).mono ?_
     rintro e v1 ⟨rfl,hS1⟩
     have HI1:=aa (HII.out.keep hS1)
     clear HII hS1
     obtain⟨E,hE,hEi,hEo,hEs⟩:=pT
     have HE:=aa hE
     have HEI:=aa hEi
     have HEO:=aa hEo
     have HES:=aa hEs
     rw[<-hE]
     clear hE hEi hEo hEs
     go_upto_region 13 with (refine wpList_store_row rfl 171 (.tmp 10) (.tmp 78) rfl v1.heap.size E ?e1 ?e2 171 zG (heap_alloc_new v1 _) HEI.out ?e3 HEO.out ?_;(case e1=>rfl);(case e2=>rfl);(case e3=>exact HES.out.symm))
     have hbn:Below v1.heap.size v1 ((v1.alloc (.cells zG 171)).setRow v1.heap.size E):=bf v1 _ E
     have hk0:((v1.alloc (.cells zG 171)).setRow v1.heap.size E).heap[v1.heap.size]? = some (.cells E 171 (0,0)):=setRow_heap _ _ _ _ _ _ (heap_alloc_new v1 _)
     obtain⟨K0,hK0⟩:=zg v1.heap.size
     rw[<-hK0]at hk0 ⊢
     have hI2:=HI1.out.keep hbn
     rw[<-hK0]at hI2
     generalize (v1.alloc (.cells zG 171)).setRow K0 E=v2 at *
     have HI2:=aa hI2
     have HK2:Hid (ac v2 K0 171 (wl 64 Kl)):=by rw[Hid,ac,hk0,HE.out];rfl
     clear hK0 hk0 hI2 hbn HI1 HE HEI HEO HES
     have HCS:Hid (∀i u,(db s)[i]? = some u->v2.cell? ⟨S0,i,none⟩=some u):=fun i u h=>(ac.cell HI2.out.st i).trans h
     refine eu kr kr ?_
     refine eQ (.pointer (some ⟨S0,0,none⟩)) ?_
     simp only[Act.put,zp]
     refine fW (.int .u32 (wv (s.a))) (fun z=>cP (.tmp 79) kr ⟨S0,0,none⟩ kr (ag z.below (HCS.out 0 _ rfl))) ?_
     simp only[Act.put,zp]
     refine eQ (.pointer (some ⟨S0,1,none⟩)) ?_
     simp only[Act.put,zp]
     refine fW (.int .u32 (wv (s.b))) (fun z=>cP (.tmp 81) kr ⟨S0,1,none⟩ kr (ag z.below (HCS.out 1 _ rfl))) ?_
     simp only[Act.put,zp]
     refine eQ (.pointer (some ⟨S0,2,none⟩)) ?_
     simp only[Act.put,zp]
     refine fW (.int .u32 (wv (s.c))) (fun z=>cP (.tmp 83) kr ⟨S0,2,none⟩ kr (ag z.below (HCS.out 2 _ rfl))) ?_
     simp only[Act.put,zp]
     refine eQ (.pointer (some ⟨S0,3,none⟩)) ?_
     simp only[Act.put,zp]
     refine fW (.int .u32 (wv (s.d))) (fun z=>cP (.tmp 85) kr ⟨S0,3,none⟩ kr (ag z.below (HCS.out 3 _ rfl))) ?_
     simp only[Act.put,zp]
     refine eQ (.pointer (some ⟨S0,4,none⟩)) ?_
     simp only[Act.put,zp]
     refine fW (.int .u32 (wv (s.e))) (fun z=>cP (.tmp 87) kr ⟨S0,4,none⟩ kr (ag z.below (HCS.out 4 _ rfl))) ?_
     simp only[Act.put,zp]
     refine eQ (.pointer (some ⟨S0,5,none⟩)) ?_
     simp only[Act.put,zp]
     refine fW (.int .u32 (wv (s.f))) (fun z=>cP (.tmp 89) kr ⟨S0,5,none⟩ kr (ag z.below (HCS.out 5 _ rfl))) ?_
     simp only[Act.put,zp]
     refine eQ (.pointer (some ⟨S0,6,none⟩)) ?_
     simp only[Act.put,zp]
     refine fW (.int .u32 (wv (s.g))) (fun z=>cP (.tmp 91) kr ⟨S0,6,none⟩ kr (ag z.below (HCS.out 6 _ rfl))) ?_
     simp only[Act.put,zp]
     refine eQ (.pointer (some ⟨S0,7,none⟩)) ?_
     simp only[Act.put,zp]
     refine fW (.int .u32 (wv (s.h))) (fun z=>cP (.tmp 93) kr ⟨S0,7,none⟩ kr (ag z.below (HCS.out 7 _ rfl))) ?_
     simp only[Act.put,zp]
     refine eQ (.int .u32 (wv (s.a))) ?_
     simp only[Act.put,zp]
     refine eQ (.int .u32 (wv (s.b))) ?_
     simp only[Act.put,zp]
     refine eQ (.int .u32 (wv (s.c))) ?_
     simp only[Act.put,zp]
     refine eQ (.int .u32 (wv (s.d))) ?_
     simp only[Act.put,zp]
     refine eQ (.int .u32 (wv (s.e))) ?_
     simp only[Act.put,zp]
     refine eQ (.int .u32 (wv (s.f))) ?_
     simp only[Act.put,zp]
     refine eQ (.int .u32 (wv (s.g))) ?_
     simp only[Act.put,zp]
     refine eQ (.int .u32 (wv (s.h))) ?_
     simp only[Act.put,zp]
     refine wpQuiet_nil ?_
     rintro _ ⟨z,rfl⟩
     have hI3:=HI2.out.keep z.below
     have hK3:ac z.wd K0 171 (wl 64 Kl):=HK2.out.below z.below HK2.out.lt
     generalize z.wd=v3 at *
     clear HI2 HK2 HCS
     go_wp2_with fail
     obtain⟨wp,hwp⟩:∃wp:World,wp=v3:=⟨_,rfl⟩
     clear hwp
     go_loopw [11,12,13,14,15,16,17,18,19] (fun s11 s12 s13 s14 s15 s16 s17 s18 s19 wr=>∃(k:Nat) (v:S8),k<=64/\s19=.int .i64 k/\v=i9 (cK l) k s/\s11=.int .u32 (wv v.a)/\s12=.int .u32 (wv v.b)/\s13=.int .u32 (wv v.c)/\s14=.int .u32 (wv v.d)/\s15=.int .u32 (wv v.e)/\s16=.int .u32 (wv v.f)/\s17=.int .u32 (wv v.g)/\s18=.int .u32 (wv v.h)/\fm w S0 R0 A s (cK l) wr/\ac wr K0 171 (wl 64 Kl)) (fun _ _ _ _ _ _ _ _ s19 _=>64-(intOf s19).toNat)
     case atStart=>exact⟨0,s,om,rfl,rfl,rfl,rfl,rfl,rfl,rfl,rfl,rfl,rfl,hI3,hK3⟩
     case round =>
      clear hI3 hK3
      obtain⟨k,v,hk,rfl,hv,rfl,rfl,rfl,rfl,rfl,rfl,rfl,rfl,hI,hK⟩:=hrel
      have HV:=aa hv
      clear hv
      by_cases hlt:k<64
      ·have HCW:Hid (wr.cell? ⟨A,k,none⟩=some (.int .u32 (wv ((cK l).getD k 0)))):=(ac.cell hI.sch _).trans (fy (by rw[n8];exact hlt))
       have HCK:Hid (wr.cell? ⟨K0,k,none⟩=some (.int .u32 (wv (Kl.getD k 0)))):=(ac.cell hK _).trans (fy (by rw[Bv];exact hlt))
       obtain⟨x,hx⟩:=zg ((cK l).getD k 0)
       obtain⟨y,hy⟩:=zg (Kl.getD k 0)
       rw[<-hx]at HCW
       rw[<-hy]at HCK
       have HRN:Hid (i9 (cK l) (k+1) s=lC y x v):=by rw[Hid,hx,hy,HV.out];rfl
       have HII:=aa hI
       have HKK:=aa hK
       have klt:(k:Int)<64:=om
       clear hx hy hI hK
       go_upto_region 17 with (fail)
       refine eu kr kr ?_
       refine eQ (.int .u32 (wv (v.h))) ?_
       simp only[Act.put,zp]
       refine eQ (.int .u32 (wv (v.e))) ?_
       simp only[Act.put,zp]
       refine kS (.int .u32 (wv (aE v.e 6))) 151 #[.int .u32 (wv v.e),.int .i64 6] kr (fun _=>by kernel_rfl) (fun z=>Cm v.e z.wd) ?_
       simp only[Act.put,zp]
       refine eQ (.int .u32 (wv (v.e))) ?_
       simp only[Act.put,zp]
       refine kS (.int .u32 (wv (aE v.e 11))) 151 #[.int .u32 (wv v.e),.int .i64 11] kr (fun _=>by kernel_rfl) (fun z=>BK v.e z.wd) ?_
       simp only[Act.put,zp]
       refine fW (.int .u32 (wv (aE v.e 6 ^^^ aE v.e 11))) (fun z=>fF (.tmp 101) (.tmp 103) kr (aE v.e 6) (aE v.e 11) kr kr) ?_
       simp only[Act.put,zp]
       refine eQ (.int .u32 (wv (v.e))) ?_
       simp only[Act.put,zp]
       refine kS (.int .u32 (wv (aE v.e 25))) 151 #[.int .u32 (wv v.e),.int .i64 25] kr (fun _=>by kernel_rfl) (fun z=>BQ v.e z.wd) ?_
       simp only[Act.put,zp]
       refine fW (.int .u32 (wv (aE v.e 6 ^^^ aE v.e 11 ^^^ aE v.e 25))) (fun z=>fF (.tmp 104) (.tmp 106) kr (aE v.e 6 ^^^ aE v.e 11) (aE v.e 25) kr kr) ?_
       simp only[Act.put,zp]
       refine fW (.int .u32 (wv (v.h+(aE v.e 6 ^^^ aE v.e 11 ^^^ aE v.e 25)))) (fun z=>dw (.tmp 99) (.tmp 107) kr v.h (aE v.e 6 ^^^ aE v.e 11 ^^^ aE v.e 25) kr kr) ?_
       simp only[Act.put,zp]
       refine eQ (.int .u32 (wv (v.e))) ?_
       simp only[Act.put,zp]
       refine eQ (.int .u32 (wv (v.f))) ?_
       simp only[Act.put,zp]
       refine fW (.int .u32 (wv (v.e &&& v.f))) (fun z=>lM (.tmp 109) (.tmp 110) kr v.e v.f kr kr) ?_
       simp only[Act.put,zp]
       refine eQ (.int .u32 (wv (v.e))) ?_
       simp only[Act.put,zp]
       refine fW (.int .u32 (wv (~~~v.e))) (fun z=>BR (.tmp 112) kr v.e kr) ?_
       simp only[Act.put,zp]
       refine eQ (.int .u32 (wv (v.g))) ?_
       simp only[Act.put,zp]
       refine fW (.int .u32 (wv (~~~v.e &&& v.g))) (fun z=>lM (.tmp 113) (.tmp 114) kr (~~~v.e) v.g kr kr) ?_
       simp only[Act.put,zp]
       refine fW (.int .u32 (wv (((v.e &&& v.f) ^^^ (~~~v.e &&& v.g))))) (fun z=>fF (.tmp 111) (.tmp 115) kr (v.e &&& v.f) (~~~v.e &&& v.g) kr kr) ?_
       simp only[Act.put,zp]
       refine fW (.int .u32 (wv (v.h+(aE v.e 6 ^^^ aE v.e 11 ^^^ aE v.e 25)+((v.e &&& v.f) ^^^ (~~~v.e &&& v.g))))) (fun z=>dw (.tmp 108) (.tmp 116) kr (v.h+(aE v.e 6 ^^^ aE v.e 11 ^^^ aE v.e 25)) ((v.e &&& v.f) ^^^ (~~~v.e &&& v.g)) kr kr) ?_
       simp only[Act.put,zp]
       refine eQ (.int .i64 k) ?_
       simp only[Act.put,zp]
       refine fW (.pointer (some ⟨K0,k,none⟩)) (fun z=>kU (.tmp 10) (.tmp 118) kr K0 k kr kr hlt) ?_
       simp only[Act.put,zp]
       refine fW (.int .u32 (wv (y))) (fun z=>cP (.tmp 119) kr ⟨K0,k,none⟩ kr (ag z.below HCK.out)) ?_
       simp only[Act.put,zp]
       refine fW (.int .u32 (wv (v.h+(aE v.e 6 ^^^ aE v.e 11 ^^^ aE v.e 25)+((v.e &&& v.f) ^^^ (~~~v.e &&& v.g))+y))) (fun z=>dw (.tmp 117) (.tmp 120) kr (v.h+(aE v.e 6 ^^^ aE v.e 11 ^^^ aE v.e 25)+((v.e &&& v.f) ^^^ (~~~v.e &&& v.g))) y kr kr) ?_
       simp only[Act.put,zp]
       refine eQ (.int .i64 k) ?_
       simp only[Act.put,zp]
       refine fW (.pointer (some ⟨A,k,none⟩)) (fun z=>kU (.tmp 5) (.tmp 122) kr A k kr kr hlt) ?_
       simp only[Act.put,zp]
       refine fW (.int .u32 (wv (x))) (fun z=>cP (.tmp 123) kr ⟨A,k,none⟩ kr (ag z.below HCW.out)) ?_
       simp only[Act.put,zp]
       refine fW (.int .u32 (wv (pM y x v))) (fun z=>dw (.tmp 121) (.tmp 124) kr (v.h+(aE v.e 6 ^^^ aE v.e 11 ^^^ aE v.e 25)+((v.e &&& v.f) ^^^ (~~~v.e &&& v.g))+y) x kr kr) ?_
       simp only[Act.put,zp]
       refine eQ (.int .u32 (wv (pM y x v))) ?_
       simp only[Act.put,zp]
       refine wpQuiet_nil ?_
       rintro _ ⟨z,rfl⟩
       have HI4:=aa (HII.out.keep z.below)
       have HK4:=aa (HKK.out.below z.below HKK.out.lt)
       generalize z.wd=v4 at *
       clear HII HKK HCW HCK
       go_upto_region 18 with (fail)
       refine wp_region_list ?_
       change wpList _ _ _ _ _ _
       refine cI (.int .u32 (wv (v.a))) ?_
       simp only[Act.put,zp]
       refine ji 151 #[.int .u32 (wv v.a),.int .i64 2] kr kr ?_
       refine(Cl v.a v4).mono ?_
       rintro e v5 ⟨rfl,hS⟩
       have HI5:=aa (HI4.out.keep hS)
       have HK5:=aa (HK4.out.below hS HK4.out.lt)
       clear HI4 HK4 hS
       have HI4:=HI5
       have HK4:=HK5
       clear HI5 HK5
       refine⟨_,rfl,?_⟩
       simp only[Act.put,zp]
       refine cI (.int .u32 (wv (v.a))) ?_
       simp only[Act.put,zp]
       refine ji 151 #[.int .u32 (wv v.a),.int .i64 13] kr kr ?_
       refine(BL v.a v5).mono ?_
       rintro e v6 ⟨rfl,hS⟩
       have HI5:=aa (HI4.out.keep hS)
       have HK5:=aa (HK4.out.below hS HK4.out.lt)
       clear HI4 HK4 hS
       have HI4:=HI5
       have HK4:=HK5
       clear HI5 HK5
       refine⟨_,rfl,?_⟩
       simp only[Act.put,zp]
       refine ed (.int .u32 (wv (aE v.a 2 ^^^ aE v.a 13))) (fF (.tmp 127) (.tmp 129) kr (aE v.a 2) (aE v.a 13) kr kr) ?_
       simp only[Act.put,zp]
       refine cI (.int .u32 (wv (v.a))) ?_
       simp only[Act.put,zp]
       refine ji 151 #[.int .u32 (wv v.a),.int .i64 22] kr kr ?_
       refine(BP v.a v6).mono ?_
       rintro e v7 ⟨rfl,hS⟩
       have HI5:=aa (HI4.out.keep hS)
       have HK5:=aa (HK4.out.below hS HK4.out.lt)
       clear HI4 HK4 hS
       have HI4:=HI5
       have HK4:=HK5
       clear HI5 HK5
       refine⟨_,rfl,?_⟩
       simp only[Act.put,zp]
       refine ed (.int .u32 (wv (aE v.a 2 ^^^ aE v.a 13 ^^^ aE v.a 22))) (fF (.tmp 130) (.tmp 132) kr (aE v.a 2 ^^^ aE v.a 13) (aE v.a 22) kr kr) ?_
       simp only[Act.put,zp]
       refine cI (.int .u32 (wv (v.a))) ?_
       simp only[Act.put,zp]
       refine cI (.int .u32 (wv (v.b))) ?_
       simp only[Act.put,zp]
       refine ed (.int .u32 (wv (v.a &&& v.b))) (lM (.tmp 134) (.tmp 135) kr v.a v.b kr kr) ?_
       simp only[Act.put,zp]
       refine cI (.int .u32 (wv (v.a))) ?_
       simp only[Act.put,zp]
       refine cI (.int .u32 (wv (v.c))) ?_
       simp only[Act.put,zp]
       refine ed (.int .u32 (wv (v.a &&& v.c))) (lM (.tmp 137) (.tmp 138) kr v.a v.c kr kr) ?_
       simp only[Act.put,zp]
       refine ed (.int .u32 (wv ((v.a &&& v.b) ^^^ (v.a &&& v.c)))) (fF (.tmp 136) (.tmp 139) kr (v.a &&& v.b) (v.a &&& v.c) kr kr) ?_
       simp only[Act.put,zp]
       refine cI (.int .u32 (wv (v.b))) ?_
       simp only[Act.put,zp]
       refine cI (.int .u32 (wv (v.c))) ?_
       simp only[Act.put,zp]
       refine ed (.int .u32 (wv (v.b &&& v.c))) (lM (.tmp 141) (.tmp 142) kr v.b v.c kr kr) ?_
       simp only[Act.put,zp]
       refine ed (.int .u32 (wv (((v.a &&& v.b) ^^^ (v.a &&& v.c) ^^^ (v.b &&& v.c))))) (fF (.tmp 140) (.tmp 143) kr ((v.a &&& v.b) ^^^ (v.a &&& v.c)) (v.b &&& v.c) kr kr) ?_
       simp only[Act.put,zp]
       refine ed (.int .u32 (wv (qM v))) (dw (.tmp 133) (.tmp 144) kr (aE v.a 2 ^^^ aE v.a 13 ^^^ aE v.a 22) ((v.a &&& v.b) ^^^ (v.a &&& v.c) ^^^ (v.b &&& v.c)) kr kr) ?_
       simp only[Act.put,zp]
       refine cI (.int .u32 (wv (qM v))) ?_
       simp only[Act.put,zp]
       refine wpList_nil ?_
       go_upto_region 19 with (fail)
       refine wp_region_list ?_
       change wpList _ _ _ _ _ _
       refine cI (.int .u32 (wv (v.g))) ?_
       simp only[Act.put,zp]
       refine cI (.int .u32 (wv (v.f))) ?_
       simp only[Act.put,zp]
       refine cI (.int .u32 (wv (v.e))) ?_
       simp only[Act.put,zp]
       refine cI (.int .u32 (wv (v.d))) ?_
       simp only[Act.put,zp]
       refine cI (.int .u32 (wv (pM y x v))) ?_
       simp only[Act.put,zp]
       refine ed (.int .u32 (wv (v.d+pM y x v))) (dw (.tmp 149) (.tmp 150) kr v.d (pM y x v) kr kr) ?_
       simp only[Act.put,zp]
       refine cI (.int .u32 (wv (v.c))) ?_
       simp only[Act.put,zp]
       refine cI (.int .u32 (wv (v.b))) ?_
       simp only[Act.put,zp]
       refine cI (.int .u32 (wv (v.a))) ?_
       simp only[Act.put,zp]
       refine cI (.int .u32 (wv (pM y x v))) ?_
       simp only[Act.put,zp]
       refine cI (.int .u32 (wv (qM v))) ?_
       simp only[Act.put,zp]
       refine ed (.int .u32 (wv (pM y x v+qM v))) (dw (.tmp 155) (.tmp 156) kr (pM y x v) (qM v) kr kr) ?_
       simp only[Act.put,zp]
       refine cI (.int .u32 (wv (v.g))) ?_
       simp only[Act.put,zp]
       refine cI (.int .u32 (wv (v.f))) ?_
       simp only[Act.put,zp]
       refine cI (.int .u32 (wv (v.e))) ?_
       simp only[Act.put,zp]
       refine cI (.int .u32 (wv (v.d+pM y x v))) ?_
       simp only[Act.put,zp]
       refine cI (.int .u32 (wv (v.c))) ?_
       simp only[Act.put,zp]
       refine cI (.int .u32 (wv (v.b))) ?_
       simp only[Act.put,zp]
       refine cI (.int .u32 (wv (v.a))) ?_
       simp only[Act.put,zp]
       refine cI (.int .u32 (wv (pM y x v+qM v))) ?_
       simp only[Act.put,zp]
       refine wpList_nil ?_
       go_wp2
       go_roundw
       case rel=>exact⟨k+1,lC y x v,om,by go_num,HRN.out.symm,rfl,rfl,rfl,rfl,rfl,rfl,rfl,rfl,HI4.out,HK4.out⟩
       case measure=>simp[intOf];omega
      ·have hk64:k=64:=om
       have HC:Hid (res=db (uf s v)):=by rw[Hid,HRES.out,HV.out,hk64];rfl
       have kge:¬(k:Int)<64:=om
       have HCS:Hid (∀i u,(db s)[i]? = some u->wr.cell? ⟨S0,i,none⟩=some u):=fun i u h=>(ac.cell hI.st i).trans h
       have HII:=aa hI
       clear hI hK hk64 hlt
       go_upto_region 20 with (fail)
       refine wp_region_list ?_
       change wpList _ _ _ _ _ _
       refine cI (.pointer (some ⟨S0,0,none⟩)) ?_
       simp only[Act.put,zp]
       refine ed (.int .u32 (wv (s.a))) (cP (.tmp 158) kr ⟨S0,0,none⟩ kr (HCS.out 0 _ rfl)) ?_
       simp only[Act.put,zp]
       refine cI (.int .u32 (wv (v.a))) ?_
       simp only[Act.put,zp]
       refine ed (.int .u32 (wv (s.a+v.a))) (dw (.tmp 159) (.tmp 160) kr s.a v.a kr kr) ?_
       simp only[Act.put,zp]
       refine cI (.pointer (some ⟨S0,1,none⟩)) ?_
       simp only[Act.put,zp]
       refine ed (.int .u32 (wv (s.b))) (cP (.tmp 162) kr ⟨S0,1,none⟩ kr (HCS.out 1 _ rfl)) ?_
       simp only[Act.put,zp]
       refine cI (.int .u32 (wv (v.b))) ?_
       simp only[Act.put,zp]
       refine ed (.int .u32 (wv (s.b+v.b))) (dw (.tmp 163) (.tmp 164) kr s.b v.b kr kr) ?_
       simp only[Act.put,zp]
       refine cI (.pointer (some ⟨S0,2,none⟩)) ?_
       simp only[Act.put,zp]
       refine ed (.int .u32 (wv (s.c))) (cP (.tmp 166) kr ⟨S0,2,none⟩ kr (HCS.out 2 _ rfl)) ?_
       simp only[Act.put,zp]
       refine cI (.int .u32 (wv (v.c))) ?_
       simp only[Act.put,zp]
       refine ed (.int .u32 (wv (s.c+v.c))) (dw (.tmp 167) (.tmp 168) kr s.c v.c kr kr) ?_
       simp only[Act.put,zp]
       refine cI (.pointer (some ⟨S0,3,none⟩)) ?_
       simp only[Act.put,zp]
       refine ed (.int .u32 (wv (s.d))) (cP (.tmp 170) kr ⟨S0,3,none⟩ kr (HCS.out 3 _ rfl)) ?_
       simp only[Act.put,zp]
       refine cI (.int .u32 (wv (v.d))) ?_
       simp only[Act.put,zp]
       refine ed (.int .u32 (wv (s.d+v.d))) (dw (.tmp 171) (.tmp 172) kr s.d v.d kr kr) ?_
       simp only[Act.put,zp]
       refine cI (.pointer (some ⟨S0,4,none⟩)) ?_
       simp only[Act.put,zp]
       refine ed (.int .u32 (wv (s.e))) (cP (.tmp 174) kr ⟨S0,4,none⟩ kr (HCS.out 4 _ rfl)) ?_
       simp only[Act.put,zp]
       refine cI (.int .u32 (wv (v.e))) ?_
       simp only[Act.put,zp]
       refine ed (.int .u32 (wv (s.e+v.e))) (dw (.tmp 175) (.tmp 176) kr s.e v.e kr kr) ?_
       simp only[Act.put,zp]
       refine cI (.pointer (some ⟨S0,5,none⟩)) ?_
       simp only[Act.put,zp]
       refine ed (.int .u32 (wv (s.f))) (cP (.tmp 178) kr ⟨S0,5,none⟩ kr (HCS.out 5 _ rfl)) ?_
       simp only[Act.put,zp]
       refine cI (.int .u32 (wv (v.f))) ?_
       simp only[Act.put,zp]
       refine ed (.int .u32 (wv (s.f+v.f))) (dw (.tmp 179) (.tmp 180) kr s.f v.f kr kr) ?_
       simp only[Act.put,zp]
       refine cI (.pointer (some ⟨S0,6,none⟩)) ?_
       simp only[Act.put,zp]
       refine ed (.int .u32 (wv (s.g))) (cP (.tmp 182) kr ⟨S0,6,none⟩ kr (HCS.out 6 _ rfl)) ?_
       simp only[Act.put,zp]
       refine cI (.int .u32 (wv (v.g))) ?_
       simp only[Act.put,zp]
       refine ed (.int .u32 (wv (s.g+v.g))) (dw (.tmp 183) (.tmp 184) kr s.g v.g kr kr) ?_
       simp only[Act.put,zp]
       refine cI (.pointer (some ⟨S0,7,none⟩)) ?_
       simp only[Act.put,zp]
       refine ed (.int .u32 (wv (s.h))) (cP (.tmp 186) kr ⟨S0,7,none⟩ kr (HCS.out 7 _ rfl)) ?_
       simp only[Act.put,zp]
       refine cI (.int .u32 (wv (v.h))) ?_
       simp only[Act.put,zp]
       refine ed (.int .u32 (wv (s.h+v.h))) (dw (.tmp 187) (.tmp 188) kr s.h v.h kr kr) ?_
       simp only[Act.put,zp]
       obtain⟨C,hC,hCi,hCo,hCs⟩:=rJ (uf s v)
       refine eR rfl 149 _ rfl C (by rw[hC];kernel_rfl) ?_
       simp only[Act.put,zp]
       refine wpList_store_row rfl 149 (.tmp 4) (.tmp 190) rfl R0 C kr kr 149 BV.toArray HII.out.res hCi (by rw[hCs];rfl) hCo ?_
       refine wpList_nil ?_
       have hB:=HII.out.below
       have hrr:=setRow_heap wr R0 _ C _ _ HII.out.res
       have HB9:=aa (below_setRow hB hRw C)
       have HCC:=aa hC
       have HRR:=aa hrr
       have HCI:=aa hCi
       clear hC hCo hCs hB hrr hCi HCS HII
       go_wp2
       refine bodyPost_ret (results_cell_row rfl _ _ R0 149 C (0,0) _ rfl HRR.out Tryz.underlying149 rfl HCI.out) rfl ?_
       exact⟨by rw[HC.out,HCC.out],HB9.out⟩
end Go.Proofs.YtmflnpdmlfmcpaaGreatDoor.Dr
