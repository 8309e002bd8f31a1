/- Joined texts. -/
import Derived.Test.YtmflnpdmlfmcpaaGreatDoorJp27
import Derived.Test.YtmflnpdmlfmcpaaGreatDoorJp40
import Derived.Test.YtmflnpdmlfmcpaaGreatDoorJp29
set_option maxRecDepth 100000
set_option maxHeartbeats 16000000
namespace Go.Proofs.YtmflnpdmlfmcpaaGreatDoor.Dr
open Go.RowKit
def tQ (B:Nat)(e:Ending)(w:World)(r:List ar × Int):Prop:=
 (r.2=0/\∃va vn vc vs,e=.returned (.tuple #[.slice va vn vc,.bool true])/\w.ownsRow B 50 35 (.slice va vn vc) vn vs/\dW 35 dZ w vs r.1)\/(r=([],500)/\e=.returned (.tuple #[.slice none 0 0,.bool false]))
theorem vt (a:Option Addr)(n c:Nat)(rs:List (List UInt8))(w:World)(hn:n<=1024)(h:Sl 1 gG w a n rs)(hd:∀r ∈ rs,r.length<=100000) :
  Calls Tryz.prog 26 #[.slice a n c] w fun e w'=>tQ w.heap.size e w' (aQ rs)/\Below w.heap.size w w':=by
 have H:=aa h
 have HD:=aa hd
 have HLEN:=aa h.1
 clear h hd
 go_enter Tryz.func26,Tryz.ntmps26
 go_upto_region 2 with (fail)
 have HO:Hid ((w.alloc (.cells #[] 50)).ownsRow w.heap.size 50 35 (.slice (some ⟨w.heap.size,0,none⟩) 0 0) 0 []):=
  ⟨rfl,.inr ⟨w.heap.size,0,#[],rfl,Nat.le_refl _,ak _ rfl,Nat.le_refl _,by unfold maxLen;omega,rfl,rfl⟩⟩
 have HB:Hid (Below w.heap.size w (w.alloc (.cells #[] 50))):=(Below.refl _ _).alloc (Nat.le_refl _) _
 obtain⟨B,hB⟩:=zg w.heap.size
 rw[<-hB]at HO ⊢
 have HBE:=aa hB
 clear hB
 generalize w.alloc (.cells #[] 50)=w1 at *
 go_wp2_with fail
 go_loopw [4,5] (fun s4 s5 wr=>∃(k:Nat) (va:Option Addr) (vc:Nat) (vs:List Value) (pre:List ar),k<=n/\s5=.int .i64 k/\s4=.slice va k vc/\wr.ownsRow B 50 35 (.slice va k vc) k vs/\dW 35 dZ wr vs pre/\aK rs=(pre++(aK (rs.drop k)).1,(aK (rs.drop k)).2)/\Below w.heap.size w wr) (fun _ s5 _=>n-(intOf s5).toNat)
 case atStart=>exact⟨0,_,_,[],[],Nat.zero_le _,rfl,rfl,HO.out,⟨rfl,fun i x hx=>by simp at hx⟩,by simp,HB.out⟩
 case round =>
  clear HO HB
  obtain⟨k,va,vc,vs,pre,hk,rfl,rfl,hown,hfl,hlm,hS⟩:=hrel
  have HOWN:=aa hown
  have HFL:=aa hfl
  have HLM:=aa hlm
  have HB:=aa hS
  clear hown hfl hlm hS
  by_cases hlt:k<n
  ·obtain⟨r,gb,go,ra,rn,rc,hr,rfl,hcell,hrc,hrs⟩:=rx H.out hlt
   have k0:(0:Int)<=(k:Int):=om
   have k1:(k:Int)<(n:Int):=om
   have hcl:=ag HB.out hcell
   have hrl:=HD.out r (List.mem_of_getElem? hr)
   have HC:=aa (zl ra rn rc r wr hrl hrc (hrs.below ai.keeps HB.out))
   have HR:=aa hr
   have HRL:=aa hrl
   clear hr hcell hrc hrs hrl
   go_wp2_with fail
   refine HC.out.mono ?_
   rintro e w2 ⟨(⟨x,da,dn,dc,hx,rfl,hp,hii,hdc,hsl⟩|⟨hx,rfl⟩),hU⟩
   ·have HX:=aa hx
    have HP:=aa hp
    have HII:=aa hii
    have HDC:=aa hdc
    have hown2:=lN HOWN.out hU
    have hfl2:=dr HFL.out (.below hU)
    have hb2:=HB.out.trans (hU.mono HB.out.size)
    obtain⟨L,hL⟩:=zg (ah x da dn dc)
    have hf35:L.length=35:=by rw[hL];exact bh hp _ _ _
    have HONE:Hid (L.toArray.all (·.oneCell')=true):=by rw[hL];exact bM _ _ _ _
    have HI58:Hid ((Tryz.prog.info? 50).map (·.size)=some L.toArray.size):=by rw[hL];exact ei hp da dn dc
    have H35:Hid (gM.toArray.size=L.toArray.size):=by rw[hL];exact mv hp da dn dc
    have HLL:=aa hL
    have HK2:=aa hown2
    have HF2:=aa hfl2
    have HB2:=aa hb2
    have HSL:=aa hsl
    rw[<-hL]
    clear HC hx hp hii hdc hU hown2 hfl2 hb2 hL hf35 hsl HOWN HFL HB
    go_upto_region 6 with (refine wpList_store_row rfl 50 (.tmp 6) (.tmp 21) rfl w2.heap.size L.toArray ?e2 ?e3 50 gM.toArray (heap_alloc_new w2 _) HI58.out ?e4 HONE.out ?_;(case e2=>rfl);(case e3=>rfl);(case e4=>exact H35.out))
    obtain⟨X6,hX6⟩:=zg w2.heap.size
    obtain⟨w3,hw3⟩:=zg ((w2.alloc (.cells zH 50)).setRow w2.heap.size L.toArray)
    rw[<-hw3,<-hX6]
    have hU:Below w2.heap.size w2 w3:=by rw[hw3];exact bf _ _ _
    have h6:ac w3 X6 50 L:=by rw[hw3,hX6];exact setRow_heap _ _ _ _ _ _ (heap_alloc_new w2 _)
    have hown3:=lN HK2.out hU
    have hfl3:=dr HF2.out (.below hU)
    have hb3:=HB2.out.trans (hU.mono HB2.out.size)
    have hsl3:=HSL.out.below hU
    have HP6:=aa h6
    have HK3:=aa hown3
    have HF3:=aa hfl3
    have HB3:=aa hb3
    have HSL3:=aa hsl3
    obtain⟨i58,hi58,hz58,hs58,hb58⟩:=tF
    have HI:=aa hi58
    clear hX6 hw3 hU h6 hown3 hfl3 hb3 hsl3 HK2 HF2 HB2 HSL hi58
    go_upto_region 8 with (fail)
    have hL:=HLL.out
    subst hL
    have hone:∀u ∈ ah x da dn dc,u.oneCell'=true:=iO w3 _ x ⟨da,dn,dc,rfl,HP.out,HII.out.1,HII.out.2,HDC.out,HSL3.out.1⟩
    refine wp_region_list ?_
    refine dd (.slice va k vc) ?_
    simp only[Act.put,zp]
    refine fX (.agg (ah x da dn dc).toArray) (aH 50 (.tmp 6) kr X6 0 kr (ah x da dn dc) _ (ac.range HP6.out) Tryz.underlying50 rfl (ej HP.out da dn dc)) ?_
    simp only[Act.put,zp]
    refine wpList_plain rfl fun K hK=>aO _ (gW (.tmp 26) kr x HP.out da dn dc kr) (hK _ _ ?_)
    simp only[Act.put,zp]
    have hBc:=(Below.refl _ w3).alloc (Nat.le_refl _) (.cells (ah x da dn dc).toArray 50)
    refine gV rfl (.tmp 25) (.tmp 27) 30 kr B 50 i58 _ 35 i58.bytes Tryz.underlying30 HI.out hz58 hs58 rfl rfl (by decide) (.slice va k vc) k vs kr (HK3.out.alloc _) ⟨w3.heap.size,0,none⟩ 1 1 (ah x da dn dc) kr (by rw[bh HP.out]) ?c1 hone (by unfold maxLen;omega) ?c2 (by have:=HB3.out.size;have:=HBE.out;simp;omega) ?_
    case c1 =>
     intro j u hu
     rw[Addr.add_lit,Nat.zero_add,dz _ _ rfl]
     simpa using hu
    case c2 =>
     have h2:=Nat.mul_le_mul (show k+1<=100000 by omega) hb58
     omega
    intro va9 vc9 w9 hown9 hg9 _
    simp only[Act.put,zp]
    have hst:dL w3 w9:=fun q cs fr hq=>((hg9.block q (by have:=lt_of_block hq;simp;omega) (rF HK3.out q cs fr hq)).trans (Below.heap_alloc _ _ q (lt_of_block hq)))
    have hB9:Below w.heap.size w w9:=(HB3.out.trans (hBc.mono HB3.out.size)).grown hg9 (by have:=HB3.out.size;simp;omega) (fun g hg=>by have:=(HK3.out.lt g hg).1;have:=HBE.out;omega)
    have hlk:dZ w9 (ah x da dn dc) x:=dZ.stay ⟨da,dn,dc,rfl,HP.out,HII.out,HDC.out,HSL3.out⟩ hst
    have HFF:=aa ((dr HF3.out hst).snoc (bh HP.out _ _ _) hlk)
    have HOO:=aa hown9
    have HBB:=aa hB9
    have HLM9:Hid (aK rs=((pre++[x])++(aK (rs.drop (k+1))).1,(aK (rs.drop (k+1))).2)):=by
     rw[Hid,HLM.out,dm HR.out,HX.out]
     simp
    clear hst hB9 hlk hown9 hg9 hBc hone HLM hz58 hs58 hb58
    go_wp2_with fail
    go_roundw
    case rel=>exact⟨k+1,va9,vc9,_,pre++[x],om,by go_num,rfl,HOO.out,HFF.out,HLM9.out,HBB.out⟩
    case measure=>simp[intOf];omega
   ·have HN:Hid (aQ rs=([],500)):=by
     rw[Hid]
     unfold aQ
     rw[HLM.out,dm HR.out,hx]
     simp
    have HB2:=aa (HB.out.trans (hU.mono HB.out.size))
    clear HC hx hU HB
    go_upto_region 6 with (refine wpList_store_row rfl 50 (.tmp 6) (.tmp 21) rfl w2.heap.size gM.toArray ?e2 ?e3 50 gM.toArray (heap_alloc_new w2 _) pz rfl kr ?_;(case e2=>rfl);(case e3=>rfl))
    have HB3:Hid (Below w.heap.size w ((w2.alloc (.cells zH 50)).setRow w2.heap.size gM.toArray)):=HB2.out.trans ((bf _ _ _).mono HB2.out.size)
    generalize (w2.alloc (.cells zH 50)).setRow w2.heap.size gM.toArray=w3 at *
    go_wp2_with fail
    refine bodyPost_ret (by simp[results,Tryz.results26,go_sem];try rfl) rfl ?_
    exact⟨.inr ⟨HN.out,rfl⟩,HB3.out⟩
  ·obtain rfl:k=n:=om
   have hl9:=HLM.out
   rw[oG (by rw[HLEN.out];exact Nat.le_refl _),List.append_nil]at hl9
   have HL9:Hid (aK rs=(pre,true)):=hl9
   have hpl:pre.length=k:=by have h1:=HFL.out.1;have h2:=HOWN.out.1;omega
   obtain⟨hvc,hsl⟩:=eB (by decide) HOWN.out pre hpl (iD HFL.out)
   have hdt:∀x ∈ pre,x.data.length<=100000:=by
    have:=kf rs HD.out
    rw[hl9]at this
    exact this
   have HC:=aa (tL va k vc pre wr hn hvc hsl hdt)
   clear hl9 hpl hsl hdt HLM
   go_wp2_with fail
   refine HC.out.mono ?_
   rintro e w2 ⟨rfl,hU⟩
   have HOW:=aa (lN HOWN.out hU)
   have HFW:=aa (dr HFL.out (.below hU))
   have HB2:=aa (HB.out.trans (hU.mono HB.out.size))
   have HKM:Hid (aQ rs=if bz pre=0 then (pre,0) else ([],500)):=by rw[Hid];unfold aQ;rw[HL9.out];simp
   clear HC hU HOWN HFL HB
   by_cases hc:bz pre=0
   ·have hc1:(bz pre != 0)=false:=by simpa using hc
    have HN:Hid (aQ rs=(pre,0)):=by rw[Hid,HKM.out,if_pos hc]
    rw[hc]
    clear hc1 hc HKM
    go_wp2_with fail
    refine bodyPost_ret (by simp[results,Tryz.results26,go_sem];try rfl) rfl ?_
    refine⟨.inl ⟨by rw[HN.out],va,k,vc,_,rfl,?_,by rw[HN.out];exact HFW.out⟩,HB2.out⟩
    rw[<-HBE.out]
    exact HOW.out
   ·have hc1:(bz pre != 0)=true:=by simpa using hc
    have hc2:(bz pre == 0)=false:=by simpa using hc
    have HN:Hid (aQ rs=([],500)):=by rw[Hid,HKM.out,if_neg hc]
    generalize bz pre=ck at *
    clear hc HKM
    go_wp2_with fail
    refine bodyPost_ret (by simp[results,Tryz.results26,go_sem];try rfl) rfl ?_
    exact⟨.inr ⟨HN.out,rfl⟩,HB2.out⟩
end Go.Proofs.YtmflnpdmlfmcpaaGreatDoor.Dr
