/- Joined texts. -/
import Derived.Test.YtmflnpdmlfmcpaaGreatDoorJp36
import Derived.Test.YtmflnpdmlfmcpaaGreatDoorJp26
import Derived.Test.YtmflnpdmlfmcpaaGreatDoorJp21
set_option maxRecDepth 100000
set_option maxHeartbeats 4000000
namespace Go.Proofs.YtmflnpdmlfmcpaaGreatDoor.Dr
open Go.RowKit
theorem vu (a:Option Addr)(n c:Nat)(l:List ar)(a':Option Addr)(n' c':Nat)(l':List ar)(w:World)(hn:n<=100000)(hn':n'<=100000)(h:Sl 35 aq w a n l)(h':Sl 35 aq w a' n' l') :
  Calls Tryz.prog 32 #[.slice a n c,.slice a' n' c',.func (.func 33) #[] #[]] w fun e w'=>e=.returned (.bool (cT l l'))/\Below w.heap.size w w':=by
 obtain⟨r,hr⟩:=zg (cT l l')
 rw[<-hr]
 have HR:=aa hr
 have H:=aa h
 have H':=aa h'
 have HL:=aa h.len
 have HL':=aa h'.len
 clear h h' hr
 go_enter Tryz.func32,Tryz.ntmps32
 by_cases hnn:n=n'
 case neg =>
  have e1:((n:Int) == (n':Int))=false:=by simp;omega
  have e1':(n == n')=false:=by simpa using hnn
  have HNN:=aa hnn
  clear hnn
  go_wp2
  go_ret
  exact⟨by rw[HR.out,cT,decide_eq_false (by rw[HL.out,HL'.out];exact HNN.out)];rfl,Below.refl _ _⟩
 subst hnn
 go_wp2_with fail
 go_loopw [17] (fun s5 wr=>∃k:Nat,k<=n/\s5=.int .i64 k/\(∀j,j<k->sb l l' j=true)/\Below w.heap.size w wr) (fun s5 _=>n-(intOf s5).toNat)
 case atStart=>exact⟨0,Nat.zero_le _,rfl,fun j hj=>absurd hj (Nat.not_lt_zero _),Below.refl _ _⟩
 case round =>
  obtain⟨k,hk,rfl,hs,hB⟩:=hrel
  have HS:=aa hs
  have hsz:=hB.size
  clear hs
  by_cases hlt:k<n
  ·obtain⟨x,b,off,da,dn,dc,hx,rfl,hpx,hdc,hsx,hrx⟩:=ek H.out hlt
   obtain⟨y,b',off',ea,en,ec,hy,rfl,hpy,hec,hsy,hry⟩:=ek H'.out hlt
   have hsa:sb l l' k=dY x y:=by unfold sb;rw[hx,hy]
   have HSA:=aa hsa
   have HLT:Hid (k<n):=hlt
   have k0:(0:Int)<=(k:Int):=om
   have k1:(k:Int)<(n:Int):=om
   have HRX:Hid (wr.rangeAt b (off+k*35) (ah x da dn dc)):=aa (bS hB hrx)
   have HRY:=aa (bS hB hry)
   have HPX:=aa hpx
   have HPY:=aa hpy
   have HX:=aa hsx
   have HY:=aa hsy
   have HB:=aa hB
   have HI1:Hid ((Tryz.prog.info? 50).map (·.size)=some (ah x da dn dc).toArray.size):=ei hpx da dn dc
   have HI2:Hid ((Tryz.prog.info? 50).map (·.size)=some (ah y ea en ec).toArray.size):=ei hpy ea en ec
   have HZ1:Hid (35=(ah x da dn dc).toArray.size):=by show _=_;rw[List.size_toArray,bh hpx]
   have HZ2:Hid (35=(ah y ea en ec).toArray.size):=by show _=_;rw[List.size_toArray,bh hpy]
   have HO1:=aa (bM x da dn dc)
   have HO2:=aa (bM y ea en ec)
   clear hx hy hsx hrx hsy hry hsa hpx hpy hB
   go_upto_region 6 with (first|(refine bm (.agg (ah x da dn dc).toArray) rfl (aH 50 (.tmp 20) rfl b (off+k*35) rfl (ah x da dn dc) _ HRX.out Tryz.underlying50 rfl (ej HPX.out da dn dc)) ?_;simp only[Act.put,zA])|(refine wpList_store_row rfl 50 (.tmp 8) (.tmp 21) rfl wr.heap.size (ah x da dn dc).toArray ?e1 ?e2 50 zH (heap_alloc_new wr _) HI1.out ?e4 HO1.out ?_;(case e1=>rfl);(case e2=>rfl);(case e4=>exact HZ1.out)))
   have hx8:ac ((wr.alloc (.cells zH 50)).setRow wr.heap.size (ah x da dn dc).toArray) wr.heap.size 50 (ah x da dn dc):=setRow_heap _ _ _ _ _ _ (heap_alloc_new wr _)
   have hS3:Below wr.heap.size wr ((wr.alloc (.cells zH 50)).setRow wr.heap.size (ah x da dn dc).toArray):=bf _ _ _
   generalize (wr.alloc (.cells zH 50)).setRow wr.heap.size (ah x da dn dc).toArray=w3 at *
   obtain⟨X8,hX8⟩:=zg wr.heap.size
   rw[<-hX8]at hx8 ⊢
   clear hX8
   have HRY3:=aa (bS hS3 HRY.out)
   have HB3:=aa (HB.out.trans (hS3.mono HB.out.size))
   have HX8:=aa hx8
   clear hS3 hx8 HRY HRX HB
   go_upto_region 7 with (first|(refine bm (.agg (ah y ea en ec).toArray) rfl (aH 50 (.tmp 24) rfl b' (off'+k*35) rfl (ah y ea en ec) _ HRY3.out Tryz.underlying50 rfl (ej HPY.out ea en ec)) ?_;simp only[Act.put,zA])|(refine wpList_store_row rfl 50 (.tmp 9) (.tmp 25) rfl w3.heap.size (ah y ea en ec).toArray ?e1 ?e2 50 zH (heap_alloc_new w3 _) HI2.out ?e4 HO2.out ?_;(case e1=>rfl);(case e2=>rfl);(case e4=>exact HZ2.out)))
   have hx9:ac ((w3.alloc (.cells zH 50)).setRow w3.heap.size (ah y ea en ec).toArray) w3.heap.size 50 (ah y ea en ec):=setRow_heap _ _ _ _ _ _ (heap_alloc_new w3 _)
   have hS4:Below w3.heap.size w3 ((w3.alloc (.cells zH 50)).setRow w3.heap.size (ah y ea en ec).toArray):=bf _ _ _
   generalize (w3.alloc (.cells zH 50)).setRow w3.heap.size (ah y ea en ec).toArray=w4 at *
   obtain⟨X9,hX9⟩:=zg w3.heap.size
   rw[<-hX9]at hx9 ⊢
   clear hX9
   have hB4:=HB3.out.trans (hS4.mono HB3.out.size)
   have HX84:=aa (HX8.out.below hS4 HX8.out.lt)
   have HX9:=aa hx9
   have HB4:=aa hB4
   have HC:=aa (xN x y da dn dc ea en ec w4 HPX.out HPY.out (HX.out.below ai.keeps hB4) (HY.out.below ai.keeps hB4))
   clear hS4 hx9 hB4 HB3 HX8
   cases hss:dY x y
   ·rw[hss]at HC
    have HSS:=aa hss
    clear hss
    go_wp2_with (first|(refine bm (.agg (ah x da dn dc).toArray) rfl (aH 50 (.tmp 8) rfl X8 0 rfl (ah x da dn dc) _ (ac.range HX84.out) Tryz.underlying50 rfl (ej HPX.out da dn dc)) ?_;simp only[Act.put,zA])|(refine bm (.agg (ah y ea en ec).toArray) rfl (aH 50 (.tmp 9) rfl X9 0 rfl (ah y ea en ec) _ (ac.range HX9.out) Tryz.underlying50 rfl (ej HPY.out ea en ec)) ?_;simp only[Act.put,zA])|(go_at_call 33;refine HC.out.mono ?_;rintro e w5 ⟨rfl,hS5⟩))
    have hB5:=HB4.out.trans (hS5.mono HB4.out.size)
    go_ret
    have hd:r=false:=by
     rw[HR.out,cT,List.all_eq_false.2 ⟨k,List.mem_range.2 (by rw[HL.out];exact HLT.out),by rw[HSA.out,HSS.out];simp⟩,Bool.and_false]
    exact⟨by rw[hd];rfl,hB5⟩
   ·rw[hss]at HC
    have HSS:=aa hss
    clear hss
    go_wp2_with (first|(refine bm (.agg (ah x da dn dc).toArray) rfl (aH 50 (.tmp 8) rfl X8 0 rfl (ah x da dn dc) _ (ac.range HX84.out) Tryz.underlying50 rfl (ej HPX.out da dn dc)) ?_;simp only[Act.put,zA])|(refine bm (.agg (ah y ea en ec).toArray) rfl (aH 50 (.tmp 9) rfl X9 0 rfl (ah y ea en ec) _ (ac.range HX9.out) Tryz.underlying50 rfl (ej HPY.out ea en ec)) ?_;simp only[Act.put,zA])|(go_at_call 33;refine HC.out.mono ?_;rintro e w5 ⟨rfl,hS5⟩))
    have hB5:=HB4.out.trans (hS5.mono HB4.out.size)
    go_wp2
    go_roundw
    case rel=>exact⟨k+1,by have:=HLT.out;omega,by go_num,fun j hj=>by
     rcases Nat.lt_or_ge j k with h1|h1
     ·exact HS.out j h1
     ·obtain rfl:j=k:=om
      rw[HSA.out,HSS.out],hB5⟩
    case measure=>have:=HLT.out;simp[intOf];omega
  ·obtain rfl:k=n:=om
   have hd:r=true:=by
    rw[HR.out,cT,decide_eq_true (by rw[HL.out,HL'.out]),Bool.true_and,List.all_eq_true]
    intro j hj
    exact HS.out j (by have:=List.mem_range.1 hj;rw[HL.out]at this;exact this)
   have HD:=aa hd
   clear hd
   go_wp2
   go_ret
   exact⟨by rw[HD.out];rfl,hB⟩
end Go.Proofs.YtmflnpdmlfmcpaaGreatDoor.Dr
