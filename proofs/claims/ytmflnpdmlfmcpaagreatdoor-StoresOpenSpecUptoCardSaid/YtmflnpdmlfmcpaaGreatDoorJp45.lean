/- Joined texts. -/
import Derived.Test.YtmflnpdmlfmcpaaGreatDoorJp40
import Derived.Test.YtmflnpdmlfmcpaaGreatDoorJp44
set_option maxRecDepth 100000
set_option maxHeartbeats 8000000
namespace Go.Proofs.YtmflnpdmlfmcpaaGreatDoor.Dr
open Go.RowKit Go.Shelf
theorem Bh {Nz:Nat}(a:Option Addr)(n c:Nat)(j:am)(a1:Option Addr)(n1 c1:Nat)(a2:Option Addr)(n2 c2:Nat)(d:aj)(w:World)(hNz:Nz<=w.heap.size)(hn:d.okB=true->n1<=100)(hi:dV w)(h:cg Nz w a n c j)(hD:bF Nz w a1 n1 c1 a2 n2 c2 d) :
  Calls Tryz.prog 9 #[.agg #[.slice a n c,.int .i64 j.many,.int .i64 j.synced],.agg #[.slice a1 n1 c1,.slice a2 n2 c2,.int .i64 d.left,.bool d.stopped]] w fun e w'=>eG Nz e w' (iE j d)/\Below w.heap.size w w':=by
 have HI:=aa hi
 have H:=aa h
 have HNZ:=aa hNz
 have HC:Hid (∀W,Below w.heap.size w W->Calls Tryz.prog 27 #[.agg #[.slice a n c,.int .i64 j.many,.int .i64 j.synced]] W fun e w'=>e=.returned (.int .i64 j.check)/\Below W.heap.size W w'):=fun W hW=>iL a n c j W (h.below hW)
 have HK:Hid (∀W,Below w.heap.size w W->Calls Tryz.prog 24 #[.agg #[.slice a n c,.int .i64 j.many,.int .i64 j.synced]] W fun e w'=>mw W.heap.size e w' (aQ j.recs)/\Below W.heap.size W w'):=fun W hW=>nH a n c j.many j.synced j.recs W (by have:=h.m;omega) (hi.below hW) (ic (h.below hW).recs) h.s
 have HS:Hid (∀W,Below w.heap.size w W->Calls Tryz.prog 18 #[.agg #[.slice a n c,.int .i64 j.many,.int .i64 j.synced],.agg #[.slice a1 n1 c1,.slice a2 n2 c2,.int .i64 d.left,.bool d.stopped]] W fun e w'=>eG Nz e w' (cC j d)/\Below W.heap.size W w'):=fun W hW=>Go.Proofs.YtmflnpdmlfmcpaaGreatDoor.jsync_b a n c j a1 n1 c1 a2 n2 c2 d W (Nat.le_trans hNz hW.size) hn (h.below hW) (hD.below hW)
 obtain⟨dl,hdl⟩:=zg d.left
 obtain⟨ds,hds⟩:=zg d.stopped
 obtain⟨jm,hjm⟩:=zg j.many
 obtain⟨js,hjs⟩:=zg j.synced
 obtain⟨ck,hck⟩:=zg j.check
 obtain⟨kk,hkk⟩:=zg (aQ j.recs)
 obtain⟨q,hq⟩:=zg (cC j d)
 obtain⟨r,hr⟩:=zg (iE j d)
 have HR:Hid (r=if ck=0 then (if kk.2=0 then q else (.zero,.zero,kk.2)) else (.zero,.zero,ck)):=by rw[hr,hck,hkk,hq];exact rfl
 rw[<-hdl,<-hds,<-hjm,<-hjs,<-hq]at HS
 rw[<-hjm,<-hjs,<-hck]at HC
 rw[<-hjm,<-hjs,<-hkk]at HK
 rw[<-hdl,<-hds,<-hjm,<-hjs,<-hr]
 clear hdl hds hjm hjs hck hkk hq hr hn hi h hD hNz H
 go_enter Tryz.func9,Tryz.ntmps9
 go_upto_region 1 with (fail)
 obtain⟨w1,hw1⟩:=zg ((((w.alloc (.cells #[.slice a n c,.int .i64 jm,.int .i64 js] 24)).alloc (.cells #[.slice a1 n1 c1,.slice a2 n2 c2,.int .i64 dl,.bool ds] 27)).alloc (.cells #[.slice none 0 0,.int .i64 0,.int .i64 0] 24)).alloc (.cells zK 27))
 obtain⟨X2,hX2⟩:=zg w.heap.size
 obtain⟨X3,hX3⟩:=zg (w.heap.size+1)
 obtain⟨X4,hX4⟩:=zg (w.heap.size+1+1)
 obtain⟨X5,hX5⟩:=zg (w.heap.size+1+1+1)
 rw[<-hw1,<-hX5,<-hX4,<-hX3,<-hX2]
 have hB1:Below w.heap.size w w1:=by rw[hw1];exact((((Below.refl _ w).alloc (Nat.le_refl _) _).alloc (by simp) _).alloc (by simp;omega) _).alloc (by simp;omega) _
 have h2:ac w1 X2 24 [.slice a n c,.int .i64 jm,.int .i64 js]:=by rw[hw1,hX2];exact aB _ (aB _ (aB _ (ak _ rfl)))
 have h3:ac w1 X3 27 [.slice a1 n1 c1,.slice a2 n2 c2,.int .i64 dl,.bool ds]:=by rw[hw1,hX3];exact aB _ (aB _ (ak _ (by simp)))
 have h4:ac w1 X4 24 [.slice none 0 0,.int .i64 0,.int .i64 0]:=by rw[hw1,hX4];exact aB _ (ak _ (by simp))
 have h5:ac w1 X5 27 [.slice none 0 0,.slice none 0 0,.int .i64 0,.bool false]:=by rw[hw1,hX5];exact ak _ (by simp)
 have HX:Hid (w.heap.size<=X4/\w.heap.size<=X5/\X4≠X5):=by show _/\_;omega
 have hne:X4≠X5:=HX.out.2.2
 clear hw1 hX2 hX3 hX4 hX5
 obtain⟨_,b0,b1,b2,_,_,_⟩:=aJ (Below.refl _ w1) h2
 have HB1:=aa hB1
 have H2:=aa h2
 have H3:=aa h3
 have H4:=aa h4
 have H5:=aa h5
 clear hB1 h2 h3 h4 h5
 go_wp2_with fail
 refine(HC.out w1 HB1.out).mono ?_
 rintro e w2 ⟨rfl,hB2⟩
 have h2:=H2.out.below hB2 H2.out.lt
 have h3:=H3.out.below hB2 H3.out.lt
 have h4:=H4.out.below hB2 H4.out.lt
 have h5:=H5.out.below hB2 H5.out.lt
 have HB2:Hid (Below w.heap.size w w2):=HB1.out.trans (hB2.mono HB1.out.size)
 clear HC H2 H3 H4 H5 HB1 hB2 b0 b1 b2
 obtain⟨_,b0,b1,b2,_,_,_⟩:=aJ (Below.refl _ w2) h2
 obtain⟨_,f0,f1,f2,_,_,_⟩:=aJ (Below.refl _ w2) h4
 obtain⟨_,g0,g1,g2,g3,_,_⟩:=aF (Below.refl _ w2) h5
 have H2:=aa h2
 have H3:=aa h3
 have H4:=aa h4
 have H5:=aa h5
 clear h2 h3 h4 h5
 by_cases hc0:ck=0
 rotate_left
 ·have e1:(ck == 0)=false:=by simpa using hc0
  have e1':(ck != 0)=true:=by simpa using hc0
  have HRR:Hid (r=(.zero,.zero,ck)):=by rw[Hid,HR.out,if_neg hc0]
  clear hc0 HR HK HS
  go_wp2_with fail
  go_region
  obtain⟨wM,hwM⟩:=zg ((((w2.setCell ⟨X4,0,none⟩ (.slice none 0 0)).setCell ⟨X4,1,none⟩ (.int .i64 0)).setCell ⟨X4,2,none⟩ (.int .i64 0)))
  have hM4:ac wM X4 24 [.slice none 0 0,.int .i64 0,.int .i64 0]:=by rw[hwM];exact bX H4.out _ _ _
  have hM5:ac wM X5 27 [.slice none 0 0,.slice none 0 0,.int .i64 0,.bool false]:=by rw[hwM];exact dR H5.out (cq _ _ _ _ _) HX.out.2.2.symm
  have hMB:Below w.heap.size w wM:=by rw[hwM];exact aY HB2.out HX.out.1 _ _ _
  rw[<-hwM]
  clear hwM
  obtain⟨wF,hwF⟩:=zg (((((wM.setCell ⟨X5,0,none⟩ (.slice none 0 0)).setCell ⟨X5,1,none⟩ (.slice none 0 0)).setCell ⟨X5,2,none⟩ (.int .i64 0)).setCell ⟨X5,3,none⟩ (.bool false)).drew)
  have hF4:ac wF X4 24 [.slice none 0 0,.int .i64 0,.int .i64 0]:=by rw[hwF];exact ac.drew (dR hM4 (l5 _ _ _ _ _ _) HX.out.2.2)
  have hF5:ac wF X5 27 [.slice none 0 0,.slice none 0 0,.int .i64 0,.bool false]:=by rw[hwF];exact ac.drew (nK hM5 _ _ _ _)
  have hFB:Below w.heap.size w wF:=by rw[hwF];exact(k9 hMB HX.out.2.1 _ _ _ _).drew
  rw[<-hwF]
  clear hwF hM4 hM5 hMB b0 b1 b2 f0 f1 f2 g0 g1 g2 g3
  obtain⟨_,f0,f1,f2,_,_,_⟩:=aJ (Below.refl _ wF) hF4
  obtain⟨_,g0,g1,g2,g3,_,_⟩:=aF (Below.refl _ wF) hF5
  go_wp2_with fail
  refine bodyPost_ret (by simp[results,Tryz.results9,go_sem,f0,f1,f2,g0,g1,g2,g3];try rfl) rfl ?_
  exact⟨ee HRR.out,hFB⟩
 have e1:(ck == 0)=true:=by simpa using hc0
 have e1':(ck != 0)=false:=by simpa using hc0
 have HR2:Hid (r=if kk.2=0 then q else (.zero,.zero,kk.2)):=by rw[Hid,HR.out,if_pos hc0]
 clear hc0 HR
 go_wp2_with fail
 refine(HK.out w2 HB2.out).mono ?_
 obtain⟨kl,ke⟩:=kk
 rintro e w3 ⟨⟨va,vn,vc,us,rfl,_,_⟩,hB3⟩
 have h2:=H2.out.below hB3 H2.out.lt
 have h3:=H3.out.below hB3 H3.out.lt
 have h4:=H4.out.below hB3 H4.out.lt
 have h5:=H5.out.below hB3 H5.out.lt
 have HB3:Hid (Below w.heap.size w w3):=HB2.out.trans (hB3.mono HB2.out.size)
 clear HK H2 H3 H4 H5 HB2 hB3 b0 b1 b2 f0 f1 f2 g0 g1 g2 g3
 simp only at HR2
 obtain⟨_,b0,b1,b2,_,_,_⟩:=aJ (Below.refl _ w3) h2
 obtain⟨_,c0,c1,c2,c3,_,_⟩:=aF (Below.refl _ w3) h3
 obtain⟨_,f0,f1,f2,_,_,_⟩:=aJ (Below.refl _ w3) h4
 obtain⟨_,g0,g1,g2,g3,_,_⟩:=aF (Below.refl _ w3) h5
 have H4:=aa h4
 have H5:=aa h5
 clear h2 h3 h4 h5
 by_cases hk0:ke=0
 rotate_left
 ·have k1:(ke == 0)=false:=by simpa using hk0
  have k1':(ke != 0)=true:=by simpa using hk0
  have HRR:Hid (r=(.zero,.zero,ke)):=by rw[Hid,HR2.out,if_neg hk0]
  clear hk0 HR2 HS
  go_wp2_with fail
  go_region
  obtain⟨wM,hwM⟩:=zg ((((w3.setCell ⟨X4,0,none⟩ (.slice none 0 0)).setCell ⟨X4,1,none⟩ (.int .i64 0)).setCell ⟨X4,2,none⟩ (.int .i64 0)))
  have hM4:ac wM X4 24 [.slice none 0 0,.int .i64 0,.int .i64 0]:=by rw[hwM];exact bX H4.out _ _ _
  have hM5:ac wM X5 27 [.slice none 0 0,.slice none 0 0,.int .i64 0,.bool false]:=by rw[hwM];exact dR H5.out (cq _ _ _ _ _) HX.out.2.2.symm
  have hMB:Below w.heap.size w wM:=by rw[hwM];exact aY HB3.out HX.out.1 _ _ _
  rw[<-hwM]
  clear hwM
  obtain⟨wF,hwF⟩:=zg (((((wM.setCell ⟨X5,0,none⟩ (.slice none 0 0)).setCell ⟨X5,1,none⟩ (.slice none 0 0)).setCell ⟨X5,2,none⟩ (.int .i64 0)).setCell ⟨X5,3,none⟩ (.bool false)).drew)
  have hF4:ac wF X4 24 [.slice none 0 0,.int .i64 0,.int .i64 0]:=by rw[hwF];exact ac.drew (dR hM4 (l5 _ _ _ _ _ _) HX.out.2.2)
  have hF5:ac wF X5 27 [.slice none 0 0,.slice none 0 0,.int .i64 0,.bool false]:=by rw[hwF];exact ac.drew (nK hM5 _ _ _ _)
  have hFB:Below w.heap.size w wF:=by rw[hwF];exact(k9 hMB HX.out.2.1 _ _ _ _).drew
  rw[<-hwF]
  clear hwF hM4 hM5 hMB b0 b1 b2 c0 c1 c2 c3 f0 f1 f2 g0 g1 g2 g3
  obtain⟨_,f0,f1,f2,_,_,_⟩:=aJ (Below.refl _ wF) hF4
  obtain⟨_,g0,g1,g2,g3,_,_⟩:=aF (Below.refl _ wF) hF5
  go_wp2_with fail
  refine bodyPost_ret (by simp[results,Tryz.results9,go_sem,f0,f1,f2,g0,g1,g2,g3];try rfl) rfl ?_
  exact⟨ee HRR.out,hFB⟩
 have k1:(ke == 0)=true:=by simpa using hk0
 have k1':(ke != 0)=false:=by simpa using hk0
 have HRR:Hid (r=q):=by rw[Hid,HR2.out,if_pos hk0]
 clear hk0 HR2
 go_wp2_with fail
 refine(HS.out w3 HB3.out).mono ?_
 rintro e w4 ⟨⟨qa,qk,qc,qa1,qn1,qc1,qa2,qn2,qc2,rfl,hj,hd⟩,hB4⟩
 have h4:=H4.out.below hB4 H4.out.lt
 have h5:=H5.out.below hB4 H5.out.lt
 have HB4:Hid (Below w.heap.size w w4):=HB3.out.trans (hB4.mono HB3.out.size)
 clear HS H4 H5 HB3 hB4 b0 b1 b2 c0 c1 c2 c3 f0 f1 f2 g0 g1 g2 g3
 obtain⟨_,f0,f1,f2,_,_,_⟩:=aJ (Below.refl _ w4) h4
 obtain⟨_,g0,g1,g2,g3,_,_⟩:=aF (Below.refl _ w4) h5
 have H4:=aa h4
 have H5:=aa h5
 have HJ:=aa hj
 have HD:=aa hd
 clear h4 h5 hj hd
 obtain⟨⟨qr,jm',js'⟩,⟨qs,qp,dl',ds'⟩,qe⟩:=q
 obtain⟨wM,hwM⟩:=zg ((((w4.setCell ⟨X4,0,none⟩ (.slice qa qk qc)).setCell ⟨X4,1,none⟩ (.int .i64 jm')).setCell ⟨X4,2,none⟩ (.int .i64 js')))
 have hoM:cU X4 w4 wM:=by rw[hwM];exact cq _ _ _ _ _
 have hsM:w4.heap.size<=wM.heap.size:=by rw[hwM];simp
 have hM4:ac wM X4 24 [.slice qa qk qc,.int .i64 jm',.int .i64 js']:=by rw[hwM];exact bX H4.out _ _ _
 have hM5:ac wM X5 27 [.slice none 0 0,.slice none 0 0,.int .i64 0,.bool false]:=dR H5.out hoM HX.out.2.2.symm
 have hMB:Below w.heap.size w wM:=by rw[hwM];exact aY HB4.out HX.out.1 _ _ _
 have hJM:=dt HJ.out hoM hsM (Nat.le_trans HNZ.out HX.out.1) H4.out (.inl rfl)
 have hDM:=qg HD.out hoM hsM (Nat.le_trans HNZ.out HX.out.1) H4.out (.inl rfl)
 obtain⟨wF,hwF⟩:=zg (((((wM.setCell ⟨X5,0,none⟩ (.slice qa1 qn1 qc1)).setCell ⟨X5,1,none⟩ (.slice qa2 qn2 qc2)).setCell ⟨X5,2,none⟩ (.int .i64 dl')).setCell ⟨X5,3,none⟩ (.bool ds')))
 have hoF:cU X5 wM wF:=by rw[hwF];exact l5 _ _ _ _ _ _
 have hsF:wM.heap.size<=wF.heap.size:=by rw[hwF];simp
 have hF4:ac wF X4 24 [.slice qa qk qc,.int .i64 jm',.int .i64 js']:=dR hM4 hoF HX.out.2.2
 have hF5:ac wF X5 27 [.slice qa1 qn1 qc1,.slice qa2 qn2 qc2,.int .i64 dl',.bool ds']:=by rw[hwF];exact nK hM5 _ _ _ _
 have hFB:Below w.heap.size w wF:=by rw[hwF];exact k9 hMB HX.out.2.1 _ _ _ _
 have HJF:=aa (dt hJM hoF hsF (Nat.le_trans HNZ.out HX.out.2.1) hM5 (.inr rfl))
 have HDF:=aa (qg hDM hoF hsF (Nat.le_trans HNZ.out HX.out.2.1) hM5 (.inr rfl))
 have HF4:=aa hF4
 have HF5:=aa hF5
 have HFB:=aa hFB
 clear hoM hsM hM4 hM5 hMB hJM hDM hoF hsF hF4 hF5 hFB H4 H5 HJ HD
 simp only
 go_wp2_with fail
 rw[<-hwM,<-hwF]
 clear hwM hwF f0 f1 f2 g0 g1 g2 g3
 obtain⟨_,f0,f1,f2,_,_,_⟩:=aJ (Below.refl _ wF) HF4.out
 obtain⟨_,g0,g1,g2,g3,_,_⟩:=aF (Below.refl _ wF) HF5.out
 refine bodyPost_ret (by simp[results,Tryz.results9,go_sem,f0,f1,f2,g0,g1,g2,g3];try rfl) rfl ?_
 exact⟨by rw[HRR.out];exact⟨_,_,_,_,_,_,_,_,_,rfl,HJF.out,HDF.out⟩,HFB.out⟩
end Go.Proofs.YtmflnpdmlfmcpaaGreatDoor.Dr
