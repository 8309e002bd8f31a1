/- Joined texts. -/
import Derived.Test.YtmflnpdmlfmcpaaGreatDoorJp13
set_option maxRecDepth 100000
set_option maxHeartbeats 4000000
namespace Go.Proofs.YtmflnpdmlfmcpaaGreatDoor.Dr
open Go.RowKit
theorem dX {P:Program}{o:Oper}{a:Act}{w w':World}{K:Act->World->Prop}{Q:Exit->Act->World->Prop}(v:Value)(hr:(execOp a.eval o).run P w=.ok (.value v) w')(h:K (a.put o.dst v) w'):o.wp P a w K Q:=by
 unfold Oper.wp
 rw[hr,Oper.upon_value]
 exact h
def jZ (w:World)(xs:List UInt8)(e:Ending)(w':World):Prop:=(∃va vc,e=.returned (.slice va xs.length vc)/\w'.ownsRow w.heap.size 5 1 (.slice va xs.length vc) xs.length (af xs))/\Below w.heap.size w w'
theorem il {w W:World}{base:Nat}{e:TypeId}{size n:Nat}{v:Value}{xs:List Value}(h:w.ownsRow base e size v n xs)(hB:Below w.heap.size w W):W.ownsRow base e size v n xs:=
 cZ h fun g hg=>by
  rcases h.2 with ⟨rfl,_⟩|⟨g',cap,cur,rfl,_,hh,_⟩
  ·cases hg
  ·cases hg
   exact hB.block _ (lt_of_block hh)
theorem fE {w:World}{base n c:Nat}{a:Option Addr}{b:List UInt8}(h:w.ownsRow base 5 1 (.slice a n c) n (af b))(hl:b.length=n):n<=c/\Sl 1 ai w a n b:=by
 obtain⟨_,h1,h2⟩:=d8 (R:=ai) h b hl (fun i x hx=>⟨_,cd hx,rfl⟩)
 exact⟨h1,h2⟩
theorem iU {w:World}(b:UInt8)(x:Value)(hx:x=.int .u8 b.toNat):(w.alloc (.cells #[x] 5)).ownsRow w.heap.size 5 1 (.slice (some ⟨w.heap.size,0,none⟩) 1 1) 1 (af [b]):=by
 subst hx
 exact⟨rfl,.inr ⟨w.heap.size,1,_,rfl,Nat.le_refl _,ak _ rfl,Nat.le_refl _,by unfold maxLen;omega,rfl,rfl⟩⟩
theorem Dm (n:Int)(w:World)(h1 : -9223372036854775808<=n)(h2:n<=9223372036854775807) :
  Calls Tryz.prog 138 #[.int .i64 n] w fun e w'=>e=.returned (.int .u64 (eA n))/\w=w':=by
 by_cases h0:0<=n
 ·obtain⟨m,rfl⟩:=Int.eq_ofNat_of_zero_le h0
  have e2:IntKind.u64.wrap (m:Int)=(m:Int):=by rw[IntKind.wrap_u64];omega
  have e5:eA (m:Int)=2*m:=by unfold eA;rw[if_pos h0];omega
  have E5:=aa e5
  clear e5
  go_enter Tryz.func138,Tryz.ntmps138
  go_wp2
  go_ret
  refine⟨bY ?_,rfl⟩
  rw[E5.out]
  first|rfl|(rw[IntKind.wrap_u64];omega)|omega
 ·have e1:IntKind.i64.wrap (n+1)=n+1:=by rw[IntKind.wrap_i64];omega
  have e2:IntKind.i64.wrap (-(n+1)) = -(n+1):=by rw[IntKind.wrap_i64];omega
  have e3:IntKind.u64.wrap (-(n+1)) = -(n+1):=by rw[IntKind.wrap_u64];omega
  have e5:((eA n:Nat):Int) = -2*n-1:=by unfold eA;rw[if_neg h0];omega
  have E5:=aa e5
  clear e5
  go_enter Tryz.func138,Tryz.ntmps138
  go_wp2
  go_ret
  refine⟨bY ?_,rfl⟩
  rw[E5.out]
  first|rfl|(simp only[IntKind.wrap_u64,IntKind.wrap_i64];omega)|omega
theorem j4 : ∀(u:Nat) (w:World),u<18446744073709551616->Calls Tryz.prog 137 #[.int .u64 u] w (jZ w (cB u)):=by
 intro u
 induction u using Nat.strongRecOn with
 | ind u ih =>
  intro w hu
  obtain⟨i0,hi0,hz0,hz1,hz2⟩:=eO
  by_cases hlt:u<128
  ·have k1:(u:Int)<128:=om
   have w1:IntKind.u8.wrap (u:Int)=((UInt8.ofNat u).toNat:Int):=by
    rw[IntKind.wrap_u8',UInt8.toNat_ofNat'];omega
   have HN:=aa (gU hlt)
   clear ih hlt
   go_enter Tryz.func137,Tryz.ntmps137
   go_wp2
   go_ret
   refine⟨⟨some ⟨w.heap.size,0,none⟩,1,by rw[HN.out];rfl,?_⟩,by go_grown⟩
   rw[HN.out]
   exact iU _ _ (by rfl)
  ·have k1:¬(u:Int)<128:=om
   have hq:u/128<u:=Nat.div_lt_self om om
   have hq2:u/128<18446744073709551616:=om
   have hc:∀W:World,Calls Tryz.prog 137 #[.int .u64 ((u:Int)/128)] W (jZ W (cB (u/128))):=fun W=>by
    have h:=ih (u/128) hq W hq2
    rwa [show ((u/128:Nat):Int)=(u:Int)/128 by omega]at h
   obtain⟨bt,hbt⟩:=zg (UInt8.ofNat (u%128+128))
   have w1:(u:Int)%128+128=(bt.toNat:Int):=by
    rw[hbt,UInt8.toNat_ofNat'];omega
   have w2:(bt.toNat:Int)%256=(bt.toNat:Int):=om
   have w3:IntKind.u8.wrap (bt.toNat:Int)=(bt.toNat:Int):=by rw[IntKind.wrap_u8'];omega
   have hn:=jf hlt
   rw[<-hbt]at hn
   have hnl:=cH hq2
   obtain⟨N,hN⟩:=zg (cB (u/128))
   rw[<-hN]at hn hc hnl
   have HN:=aa hn
   have HC:=aa hc
   clear ih hlt hc hn hbt hq hq2 hN
   go_enter Tryz.func137,Tryz.ntmps137
   go_wp2_with fail
   refine(HC.out _).mono ?_
   rintro e w2 ⟨⟨va,vc,rfl,hown⟩,hS2⟩
   have hB0:=(Below.refl _ w).alloc (Nat.le_refl _) (.cells #[.int .u8 bt.toNat] 5)
   have hB2:=hB0.trans (hS2.mono hB0.size)
   have HO:=aa (il (iU (w:=w) bt _ rfl) hS2)
   obtain⟨_,hsl⟩:=fE hown rfl
   obtain⟨f1,f2,f3,f4⟩:=bV hsl
   have F1:=aa f1
   have F3:=aa f3
   have F4:=aa f4
   clear hown hS2 hsl f1 f3 f4
   go_wp2_with (at_builtin;refine aD rfl (.tmp 12) (.tmp 15) 40 rfl w.heap.size 5 i0 (.int .u8 0) 1 1 Tryz.underlying40 hi0 hz0 hz1 hz2 rfl (by decide) (.slice (some ⟨w.heap.size,0,none⟩) 1 1) 1 (af [bt]) rfl HO.out va N.length vc (af N) rfl F1.out f2 F3.out F4.out ?p3 ?p4 ?p5 ?_;rotate_right;intro vd vf w3 hown3 hgrow3)
   case p3=>unfold maxLen;omega
   case p4=>omega
   case p5=>exact hB2.size
   have hB3:Below w.heap.size w w3:=hB2.grown hgrow3 hB2.size (bU HO.out)
   go_ret
   refine⟨⟨vd,vf,by rw[HN.out,List.length_cons,Nat.add_comm];rfl,?_⟩,hB3⟩
   rw[HN.out,List.length_cons,Nat.add_comm]
   exact hown3
section
variable {P : Program} {md : Region.Mode} {ops : Array Oper} {S : World -> Prop} {z : Nat} {Q : Exit -> Act -> World -> Prop}
theorem yO (i j:Nat){o o':Oper}{k:Nat}{l:Array Bool}{a:Act}{w:World}(hr:Region.ready md ops l=[i,j])(hi:ops[i]? = some o)(hj:ops[j]? = some o')(hg:o.guard=none)(hg':o'.guard=none)
  (h:o.wp P a w (fun a' w'=>(i=z\/S w')/\bT P md ops Q S z k (l.setIfInBounds i true) a' w') Q)
  (h':o'.wp P a w (fun a' w'=>(j=z\/S w')/\bT P md ops Q S z k (l.setIfInBounds j true) a' w') Q):bT P md ops Q S z (k+1) l a w:=by
 refine⟨fun h0=>(by rw[hr]at h0;cases h0),fun q hq => ?_⟩
 rw[hr]at hq
 unfold wpOp
 rcases List.mem_cons.1 hq with rfl|hq
 ·simp only[hi]
  rw[if_pos (by simp[Region.wanted,hg])]
  exact .inl h
 ·obtain rfl:q=j:=by simpa using hq
  simp only[hj]
  rw[if_pos (by simp[Region.wanted,hg'])]
  exact .inl h'
end
theorem dN {w:World}{b b':Nat}{e:TypeId}{size n:Nat}{v:Value}{xs:List Value}(h:w.ownsRow b e size v n xs)(hb:b'<=b):w.ownsRow b' e size v n xs:=by
 obtain⟨q1,q2⟩:=h
 refine⟨q1,?_⟩
 rcases q2 with q2|⟨g,cap,cur,q2,q3,q4⟩
 ·exact .inl q2
 ·exact .inr ⟨g,cap,cur,q2,Nat.le_trans hb q3,q4⟩
theorem eo (a b:List UInt8):af a++af b=af (a++b):=by simp[af]
theorem ko (n:Int)(la:Option Addr)(lc:Nat)(w:World)(h1 : -9223372036854775808<=n)(h2:n<=9223372036854775807) :
  Calls Tryz.prog 111 #[.agg #[.int .i64 1,.int .i64 n,.string ⟨#[]⟩,.slice la 0 lc]] w (jZ w (aL (.int n))):=by
 obtain⟨i0,hi0,hz0,hz1,hz2⟩:=eO
 have hu:eA n<18446744073709551616:=by unfold eA;split<;>omega
 have hnl:=cH hu
 obtain⟨N,hN⟩:=zg (cB (eA n))
 have HE:Hid (aL (.int n)=1::N):=by rw[Hid,hN];rfl
 rw[<-hN]at hnl
 have HN:=aa hN
 clear hN
 go_enter Tryz.func111,Tryz.ntmps111
 go_upto_region 3 with (fail)
 have hB1:=(Below.refl _ w).alloc (Nat.le_refl _) (.cells #[.int .i64 1,.int .i64 n,.string ⟨#[]⟩,.slice la 0 lc] 88)
 obtain⟨X,hX⟩:=zg w.heap.size
 have hx1:=ak (w:=w) (.cells #[.int .i64 1,.int .i64 n,.string ⟨#[]⟩,.slice la 0 lc] 88) hX
 have hXs:X<(w.alloc (.cells #[.int .i64 1,.int .i64 n,.string ⟨#[]⟩,.slice la 0 lc] 88)).heap.size:=lt_of_block hx1
 rw[<-hX]
 generalize w.alloc (.cells #[.int .i64 1,.int .i64 n,.string ⟨#[]⟩,.slice la 0 lc] 88)=w1 at *
 clear hX
 obtain⟨_,f0,f1,f2,f3,_,_⟩:=aF (Below.refl _ w1) hx1
 clear hx1
 go_wp2_with fail
 refine(Dm n _ h1 h2).mono ?_
 rintro e w2 ⟨rfl,rfl⟩
 go_wp2_with fail
 have hc:=j4 (eA n) (w1.alloc (.cells #[.int .u8 1] 5)) hu
 rw[<-HN.out]at hc
 refine hc.mono ?_
 rintro e w3 ⟨⟨va,vc,rfl,hown⟩,hS3⟩
 have hB2:=(Below.refl _ w1).alloc (Nat.le_refl _) (.cells #[.int .u8 1] 5)
 have hB3:=hB2.trans (hS3.mono hB2.size)
 have HO:=aa (il (iU (w:=w1) 1 (.int .u8 1) rfl) hS3)
 obtain⟨_,hsl⟩:=fE hown rfl
 obtain⟨g1,g2,g3,g4⟩:=bV hsl
 have G1:=aa g1
 have G3:=aa g3
 have G4:=aa g4
 clear hown hS3 hsl g1 g3 g4 hc
 go_wp2_with (at_builtin;refine aD rfl (.tmp 9) (.tmp 13) 40 rfl w1.heap.size 5 i0 (.int .u8 0) 1 1 Tryz.underlying40 hi0 hz0 hz1 hz2 rfl (by decide) (.slice (some ⟨w1.heap.size,0,none⟩) 1 1) 1 (af [1]) rfl HO.out va N.length vc (af N) rfl G1.out g2 G3.out G4.out ?p3 ?p4 ?p5 ?_;rotate_right;intro vd vf w4 hown4 hgrow4)
 case p3=>unfold maxLen;omega
 case p4=>omega
 case p5=>exact hB3.size
 have hB4:Below w1.heap.size w1 w4:=hB3.grown hgrow4 hB3.size (bU HO.out)
 go_ret
 refine⟨⟨vd,vf,by rw[HE.out,List.length_cons,Nat.add_comm];rfl,?_⟩,hB1.trans (hB4.mono hB1.size)⟩
 rw[HE.out,List.length_cons,Nat.add_comm]
 exact dN hown4 hB1.size
theorem jG (s:List UInt8)(la:Option Addr)(lc:Nat)(w:World)(hs:s.length<=900000) :
  Calls Tryz.prog 111 #[.agg #[.int .i64 2,.int .i64 0,.string (aw s),.slice la 0 lc]] w (jZ w (aL (.text s))):=by
 obtain⟨i0,hi0,hz0,hz1,hz2⟩:=eO
 have hu:s.length<18446744073709551616:=om
 have hnl:=cH hu
 obtain⟨N,hN⟩:=zg (cB s.length)
 have HE:Hid (aL (.text s)=2::(N++s)):=by rw[Hid,hN];rfl
 rw[<-hN]at hnl
 have HN:=aa hN
 have hcv:IntKind.u64.wrap (s.length:Int)=(s.length:Int):=by rw[IntKind.wrap_u64];omega
 have HCV:=aa hcv
 have hsz:=fA s
 have HSZ:=aa hsz
 clear hN hcv
 go_enter Tryz.func111,Tryz.ntmps111
 go_upto_region 5 with (fail)
 obtain⟨X,hX⟩:=zg w.heap.size
 have hB1:=(Below.refl _ w).alloc (Nat.le_refl _) (.cells #[.int .i64 2,.int .i64 0,.string (aw s),.slice la 0 lc] 88)
 have hx1:=ak (w:=w) (.cells #[.int .i64 2,.int .i64 0,.string (aw s),.slice la 0 lc] 88) hX
 rw[<-hX]
 generalize w.alloc (.cells #[.int .i64 2,.int .i64 0,.string (aw s),.slice la 0 lc] 88)=w1 at *
 clear hX
 refine bZ (fun W=>W.heap[X]? = some (.cells #[.int .i64 2,.int .i64 0,.string (aw s),.slice la 0 lc] 88 (0,0))) 10 kr ?_
 change bT _ _ _ _ _ _ _ _ _ (World.drew w1)
 have hx2:(World.drew w1).heap[X]? = some (.cells #[.int .i64 2,.int .i64 0,.string (aw s),.slice la 0 lc] 88 (0,0)):=hx1
 have hB2:Below w.heap.size w (World.drew w1):=hB1.drew
 generalize World.drew w1=w2 at *
 have hz2':=hB2.size
 clear hx1 hB1
 refine aM 1 (.pointer (some ⟨X,2,none⟩)) rfl kr kr kr kr (fun _ _ _ h=>h) rfl (fun W (h:W.heap[X]? = some (.cells #[.int .i64 2,.int .i64 0,.string (aw s),.slice la 0 lc] 88 (0,0))) => ?y1) hx2 ?_
 case y1=>(obtain⟨_,f0,f1,f2,f3,_,_⟩:=aF (Below.refl _ W) h;go_simp;try rfl)
 simp only[Act.put,zA]
 refine aM 2 (.string (aw s)) rfl kr kr kr kr (fun _ _ _ h=>h) rfl (fun W (h:W.heap[X]? = some (.cells #[.int .i64 2,.int .i64 0,.string (aw s),.slice la 0 lc] 88 (0,0))) => ?y2) hx2 ?_
 case y2=>(obtain⟨_,f0,f1,f2,f3,_,_⟩:=aF (Below.refl _ W) h;go_simp;try rfl)
 simp only[Act.put]
 refine aM 3 (.int .i64 (s.length:Int)) rfl kr kr kr kr (fun _ _ _ h=>h) rfl (fun W (h:W.heap[X]? = some (.cells #[.int .i64 2,.int .i64 0,.string (aw s),.slice la 0 lc] 88 (0,0))) => ?y3) hx2 ?_
 case y3=>(obtain⟨_,f0,f1,f2,f3,_,_⟩:=aF (Below.refl _ W) h;go_simp;try rfl)
 simp only[Act.put]
 refine aM 4 (.int .u64 (s.length:Int)) rfl kr kr kr kr (fun _ _ _ h=>h) rfl (fun W (h:W.heap[X]? = some (.cells #[.int .i64 2,.int .i64 0,.string (aw s),.slice la 0 lc] 88 (0,0))) => ?y4) hx2 ?_
 case y4=>(obtain⟨_,f0,f1,f2,f3,_,_⟩:=aF (Below.refl _ W) h;have hcv:=HCV.out;go_simp;try rfl)
 simp only[Act.put]
 refine aM 7 (.pointer (some ⟨X,2,none⟩)) rfl kr kr kr kr (fun _ _ _ h=>h) rfl (fun W (h:W.heap[X]? = some (.cells #[.int .i64 2,.int .i64 0,.string (aw s),.slice la 0 lc] 88 (0,0))) => ?y7) hx2 ?_
 case y7=>(obtain⟨_,f0,f1,f2,f3,_,_⟩:=aF (Below.refl _ W) h;go_simp;try rfl)
 simp only[Act.put]
 refine aM 8 (.string (aw s)) rfl kr kr kr kr (fun _ _ _ h=>h) rfl (fun W (h:W.heap[X]? = some (.cells #[.int .i64 2,.int .i64 0,.string (aw s),.slice la 0 lc] 88 (0,0))) => ?y8) hx2 ?_
 case y8=>(obtain⟨_,f0,f1,f2,f3,_,_⟩:=aF (Below.refl _ W) h;go_simp;try rfl)
 simp only[Act.put]
 have HC:Hid (∀W:World,Calls Tryz.prog 137 #[.int .u64 (s.length:Int)] W (jZ W N)):=fun W=>by have:=j4 s.length W hu;rw[<-HN.out]at this;exact this
 refine yO 0 5 kr rfl rfl rfl rfl ?_ ?_
 ·have hxa:=aB (.cells #[.int .u8 2] 5) hx2
  have hBa:=hB2.alloc hz2' (.cells #[.int .u8 2] 5)
  have hoa:=iU (w:=w2) 2 (.int .u8 2) rfl
  obtain⟨G,hG⟩:=zg w2.heap.size
  rw[<-hG]at hoa
  refine dX (w':=w2.alloc (.cells #[.int .u8 2] 5)) (.slice (some ⟨G,0,none⟩) 1 1) (by rw[hG];kernel_rfl) ?_
  have hGw:w.heap.size<=G:=by rw[hG];exact hz2'
  generalize w2.alloc (.cells #[.int .u8 2] 5)=w3 at *
  clear hG
  refine⟨.inr hxa,?_⟩
  simp only[Act.put]
  refine aC 5 kr rfl rfl ?_
  unfold Oper.wp
  go_simp
  refine(HC.out _).mono ?_
  rintro e w4 ⟨⟨va,vc,rfl,hown⟩,hS4⟩
  have hx4:=(hS4.block _ (lt_of_block hxa)).trans hxa
  have hB4:=hBa.trans (hS4.mono hBa.size)
  have HO:=aa (il hoa hS4)
  obtain⟨_,hsl⟩:=fE hown rfl
  clear hx2 hB2 hz2' hxa hBa hoa hS4 hown
  obtain⟨g1,g2,g3,g4⟩:=bV hsl
  have hz4:=hB4.size
  first
  | refine⟨.inr hx4,?_⟩
  | refine⟨hx4,?_⟩
  try simp only[Act.put,zA]
  refine aC 6 kr rfl rfl ?_
  refine dA (.tmp 17) (.tmp 22) 40 kr w.heap.size 5 i0 (.int .u8 0) 1 1 Tryz.underlying40 hi0 hz0 hz1 hz2 rfl (by decide) (.slice (some ⟨G,0,none⟩) 1 1) 1 (af [2]) kr (dN HO.out hGw) va N.length vc (af N) kr g1 g2 g3 g4 (by unfold maxLen;omega) om hz4 ?_
  intro vd vf w5 hown5 hgrow5
  have hx5:=bx hx4 hgrow5 (de (dN HO.out hGw) hx4 (by decide))
  have hB5:=hB4.grown hgrow5 hz4 (bU (dN HO.out hGw))
  have hz5:=hB5.size
  rw[eo]at hown5
  clear g1 g2 g3 g4 hx4 hB4 hz4 HO hgrow5 hsl
  refine⟨.inr hx5,?_⟩
  simp only[Act.put,zA]
  refine aC 9 kr rfl rfl ?_
  refine fY (.tmp 23) (.tmp 25) 40 9 kr w.heap.size 5 i0 Tryz.underlying40 Tryz.underlying9 hi0 hz0 hz1 hz2 (.slice vd (1+N.length) vf) (1+N.length) (af ([2]++N)) kr hown5 (aw s) kr (by rw[HSZ.out];unfold maxLen;omega) (by rw[HSZ.out];omega) hz5 ?_
  intro vp vq w6 hown6 hgrow6
  have hx6:=bx hx5 hgrow6 (de hown5 hx5 (by decide))
  have hB6:=hB5.grown hgrow6 hz5 (bU hown5)
  rw[gE,eo,HSZ.out]at hown6
  rw[HSZ.out]
  clear hx5 hB5 hz5 hown5 hgrow6
  refine⟨.inr hx6,?_⟩
  simp only[Act.put]
  refine aC 10 kr rfl rfl ?_
  refine dX (w':=w6) (.slice vp (1+N.length+s.length) vq) kr ?_
  refine⟨.inl rfl,?_⟩
  try simp only[Act.put,zP]
  refine cV kr ?_
  try simp only[zB,zC]
  go_wp2
  go_ret
  have hl:(2::(N++s)).length=1+N.length+s.length:=by simp;omega
  refine⟨⟨vp,vq,by (rw[HE.out,hl];try rfl),?_⟩,hB6⟩
  rw[HE.out,hl]
  exact hown6
 ·unfold Oper.wp
  go_simp
  refine(HC.out _).mono ?_
  rintro e w3 ⟨⟨va,vc,rfl,hown⟩,hS3⟩
  have hx3:=(hS3.block _ (lt_of_block hx2)).trans hx2
  have hB3:=hB2.trans (hS3.mono hz2')
  obtain⟨_,hsl3⟩:=fE hown rfl
  clear hS3 hown hx2 hB2
  refine⟨hx3,?_⟩
  try simp only[Act.put,zA]
  refine aC 0 kr rfl rfl ?_
  have hx4:=aB (.cells #[.int .u8 2] 5) hx3
  have hB4:=hB3.alloc hB3.size (.cells #[.int .u8 2] 5)
  have HO:=aa (iU (w:=w3) 2 (.int .u8 2) rfl)
  have hsl:=hsl3.below ai.keeps ((Below.refl _ w3).alloc (Nat.le_refl _) (.cells #[.int .u8 2] 5))
  obtain⟨G,hG⟩:=zg w3.heap.size
  rw[<-hG]at HO
  refine dX (w':=w3.alloc (.cells #[.int .u8 2] 5)) (.slice (some ⟨G,0,none⟩) 1 1) (by rw[hG];kernel_rfl) ?_
  have hGw:w.heap.size<=G:=by rw[hG];exact hB3.size
  generalize w3.alloc (.cells #[.int .u8 2] 5)=w4 at *
  clear hx3 hB3 hsl3 hG
  obtain⟨g1,g2,g3,g4⟩:=bV hsl
  have hz4:=hB4.size
  first
  | refine⟨.inr hx4,?_⟩
  | refine⟨hx4,?_⟩
  try simp only[Act.put,zA]
  refine aC 6 kr rfl rfl ?_
  refine dA (.tmp 17) (.tmp 22) 40 kr w.heap.size 5 i0 (.int .u8 0) 1 1 Tryz.underlying40 hi0 hz0 hz1 hz2 rfl (by decide) (.slice (some ⟨G,0,none⟩) 1 1) 1 (af [2]) kr (dN HO.out hGw) va N.length vc (af N) kr g1 g2 g3 g4 (by unfold maxLen;omega) om hz4 ?_
  intro vd vf w5 hown5 hgrow5
  have hx5:=bx hx4 hgrow5 (de (dN HO.out hGw) hx4 (by decide))
  have hB5:=hB4.grown hgrow5 hz4 (bU (dN HO.out hGw))
  have hz5:=hB5.size
  rw[eo]at hown5
  clear g1 g2 g3 g4 hx4 hB4 hz4 HO hgrow5 hsl
  refine⟨.inr hx5,?_⟩
  simp only[Act.put]
  refine aC 9 kr rfl rfl ?_
  refine fY (.tmp 23) (.tmp 25) 40 9 kr w.heap.size 5 i0 Tryz.underlying40 Tryz.underlying9 hi0 hz0 hz1 hz2 (.slice vd (1+N.length) vf) (1+N.length) (af ([2]++N)) kr hown5 (aw s) kr (by rw[HSZ.out];unfold maxLen;omega) (by rw[HSZ.out];omega) hz5 ?_
  intro vp vq w6 hown6 hgrow6
  have hx6:=bx hx5 hgrow6 (de hown5 hx5 (by decide))
  have hB6:=hB5.grown hgrow6 hz5 (bU hown5)
  rw[gE,eo,HSZ.out]at hown6
  rw[HSZ.out]
  clear hx5 hB5 hz5 hown5 hgrow6
  refine⟨.inr hx6,?_⟩
  simp only[Act.put]
  refine aC 10 kr rfl rfl ?_
  refine dX (w':=w6) (.slice vp (1+N.length+s.length) vq) kr ?_
  refine⟨.inl rfl,?_⟩
  try simp only[Act.put,zP]
  refine cV kr ?_
  try simp only[zB,zC]
  go_wp2
  go_ret
  have hl:(2::(N++s)).length=1+N.length+s.length:=by simp;omega
  refine⟨⟨vp,vq,by (rw[HE.out,hl];try rfl),?_⟩,hB6⟩
  rw[HE.out,hl]
  exact hown6
theorem wJ (v:aT):1<=(aL v).length:=by cases v<;>simp[aL]
theorem nw (l:List aT):l.length<=(bP l).length:=by
 induction l with
 | nil=>simp
 | cons v l ih=>have:=wJ v;simp only[bP,List.length_cons,List.length_append];omega
theorem ov (d:Nat)(IH:∀(v:aT) (vs:List Value) (w:World),VR d w vs v->(aL v).length<=900000->Calls Tryz.prog 111 #[.agg vs.toArray] w (jZ w (aL v)))
  (l:List aT) (la:Option Addr) (ln lc:Nat) (w:World) (hel:(aL (.list l)).length<=900000) (hsl:Sl 4 (VR d) w la ln l) :
  Calls Tryz.prog 111 #[.agg #[.int .i64 3,.int .i64 0,.string ⟨#[]⟩,.slice la ln lc]] w (jZ w (aL (.list l))):=by
 obtain⟨i0,hi0,hz0,hz1,hz2⟩:=eO
 have hll:l.length=ln:=hsl.len
 have hge:=nw l
 have hle:1+(cB l.length).length+(bP l).length<=900000:=by simp only[aL,List.length_cons,List.length_append]at hel;omega
 have hln:ln<=900000:=om
 have hu:ln<18446744073709551616:=om
 obtain⟨N,hN⟩:=zg (cB ln)
 rw[hll,<-hN]at hle
 have HE:Hid (aL (.list l)=[3]++N++bP l):=by rw[Hid,hN,<-hll];rfl
 have HC:Hid (∀W:World,Calls Tryz.prog 137 #[.int .u64 (ln:Int)] W (jZ W N)):=fun W=>by have:=j4 ln W hu;rw[<-hN]at this;exact this
 have hcv:IntKind.u64.wrap (ln:Int)=(ln:Int):=by rw[IntKind.wrap_u64];omega
 have HSL:=aa hsl
 have HLL:=aa hll
 have HIH:=aa IH
 clear hsl hll IH hN hge hel
 go_enter Tryz.func111,Tryz.ntmps111
 go_upto_region 6 with (fail)
 have hB1:=(Below.refl _ w).alloc (Nat.le_refl _) (.cells #[.int .i64 3,.int .i64 0,.string ⟨#[]⟩,.slice la ln lc] 88)
 obtain⟨X,hX⟩:=zg w.heap.size
 have hx1:=ak (w:=w) (.cells #[.int .i64 3,.int .i64 0,.string ⟨#[]⟩,.slice la ln lc] 88) hX
 rw[<-hX]
 generalize w.alloc (.cells #[.int .i64 3,.int .i64 0,.string ⟨#[]⟩,.slice la ln lc] 88)=w1 at *
 clear hX
 obtain⟨_,f0,f1,f2,f3,_,_⟩:=aF (Below.refl _ w1) hx1
 have HX1:=aa hx1
 have hz1':=hB1.size
 clear hx1
 go_wp2_with fail
 refine(HC.out _).mono ?_
 rintro e w3 ⟨⟨va,vc,rfl,hown⟩,hS3⟩
 have hB2:=(Below.refl _ w1).alloc (Nat.le_refl _) (.cells #[.int .u8 3] 5)
 have hB3:=hB2.trans (hS3.mono hB2.size)
 have HO:=aa (il (iU (w:=w1) 3 (.int .u8 3) rfl) hS3)
 obtain⟨_,hsl⟩:=fE hown rfl
 obtain⟨g1,g2,g3,g4⟩:=bV hsl
 have G1:=aa g1
 have G3:=aa g3
 have G4:=aa g4
 have HX3:Hid (w3.heap[X]? = some (.cells #[.int .i64 3,.int .i64 0,.string ⟨#[]⟩,.slice la ln lc] 88 (0,0))):=(hB3.block _ (lt_of_block HX1.out)).trans HX1.out
 clear hown hS3 hsl g1 g3 g4 HC hB2 f0 f1 f2 f3 hcv
 go_wp2_with (at_builtin;refine aD rfl (.tmp 27) (.tmp 32) 40 rfl w1.heap.size 5 i0 (.int .u8 0) 1 1 Tryz.underlying40 hi0 hz0 hz1 hz2 rfl (by decide) (.slice (some ⟨w1.heap.size,0,none⟩) 1 1) 1 (af [3]) rfl HO.out va N.length vc (af N) rfl G1.out g2 G3.out G4.out ?p3 ?p4 ?p5 ?_;rotate_right;intro vd vf w4 hown4 hgrow4)
 case p3=>unfold maxLen;omega
 case p4=>omega
 case p5=>exact hB3.size
 have hB4:Below w.heap.size w w4:=hB1.trans ((hB3.grown hgrow4 hB3.size (bU HO.out)).mono hz1')
 have hx4:w4.heap[X]? = some (.cells #[.int .i64 3,.int .i64 0,.string ⟨#[]⟩,.slice la ln lc] 88 (0,0)):=bx HX3.out hgrow4 (de HO.out HX3.out (by decide))
 rw[eo]at hown4
 have hown4':=dN hown4 hz1'
 clear hown4 hgrow4 HO G1 G3 G4 HX3 HX1 hB3
 go_loopw [3,4] (fun s3 s4 wr=>∃(k m:Nat) (A:Option Addr) (C:Nat),k<=ln/\s4=.int .i64 k/\s3=.slice A m C/\m=1+N.length+(bP (l.take k)).length/\wr.ownsRow w.heap.size 5 1 (.slice A m C) m (af ([3]++N++bP (l.take k)))/\wr.heap[X]? = some (.cells #[.int .i64 3,.int .i64 0,.string ⟨#[]⟩,.slice la ln lc] 88 (0,0))/\Below w.heap.size w wr) (fun _ s4 _=>ln-(intOf s4).toNat)
 case atStart=>exact⟨0,1+N.length,vd,vf,Nat.zero_le _,rfl,rfl,by simp[bP],by simpa[bP] using hown4',hx4,hB4⟩
 case round =>
  clear hown4' hx4 hB4 hB1 hz1'
  obtain⟨k,m,A,C,hk,rfl,rfl,hm,hown,hx,hB⟩:=hrel
  have hzr:=hB.size
  obtain⟨_,f0,f1,f2,f3,_,_⟩:=aF (Below.refl _ wr) hx
  have HXr:=aa hx
  have HOWN:=aa hown
  have hml:m<=900000:=by have:=eP l k;omega
  have HM:=aa hm
  clear hx hown hm
  by_cases hlt:k<ln
  ·obtain⟨x,hxk⟩:=av HLL.out hlt
   obtain⟨qb,qo,rfl,v0,v1,v2,v3,hvr,c0,c1,c2,c3⟩:∃qb qo,la=some ⟨qb,qo,none⟩/\∃v0 v1 v2 v3,VR d w [v0,v1,v2,v3] x/\w.cell? ⟨qb,qo+k*4,none⟩=some v0/\w.cell? ⟨qb,qo+k*4+1,none⟩=some v1/\w.cell? ⟨qb,qo+k*4+2,none⟩=some v2/\w.cell? ⟨qb,qo+k*4+3,none⟩=some v3:=by
    rcases Sl.at4 HSL.out with h0|⟨b,off,h0,hc⟩
    ·omega
    ·obtain⟨v0,v1,v2,v3,h⟩:=hc k x hxk
     exact⟨b,off,h0,v0,v1,v2,v3,h⟩
   have c0:=ag hB c0
   have c1:=ag hB c1
   have c2:=ag hB c2
   have c3:=ag hB c3
   obtain⟨vm,vs,ea,en,ec,rfl,rfl,rfl,rfl⟩:=hvr.four
   have HVR:=aa (VR.below d _ _ _ _ hB hvr)
   have hsn:=iC l k x hxk
   have h2:=eP l (k+1)
   have hxl:m+(aL x).length<=900000:=by rw[hsn,List.length_append]at h2;have:=HM.out;omega
   obtain⟨E,hE⟩:=zg (aL x)
   rw[<-hE]at hsn hxl
   have HIX:=HIH.out x _ wr HVR.out (by rw[<-hE];omega)
   rw[<-hE]at HIX
   have HIX:=aa HIX
   have HSN:=aa hsn
   clear hxk hvr hsn h2 hE
   go_wp2_with fail
   refine HIX.out.mono ?_
   rintro e w5 ⟨⟨va,vc,rfl,hown⟩,hS5⟩
   have hB5:=hB.trans (hS5.mono hzr)
   have HO5:=aa (il HOWN.out hS5)
   have hx5:=(hS5.block _ (lt_of_block HXr.out)).trans HXr.out
   have HX5:=aa hx5
   obtain⟨_,hsl⟩:=fE hown rfl
   obtain⟨g1,g2,g3,g4⟩:=bV hsl
   have G1:=aa g1
   have G3:=aa g3
   have G4:=aa g4
   have hz5:=hB5.size
   clear hown hS5 hsl g1 g3 g4 HIX c0 c1 c2 c3 f0 f1 f2 f3 hx5
   go_wp2_with (at_builtin;refine aD rfl (.tmp 41) (.tmp 47) 40 rfl w.heap.size 5 i0 (.int .u8 0) 1 1 Tryz.underlying40 hi0 hz0 hz1 hz2 rfl (by decide) (.slice A m C) m (af ([3]++N++bP (l.take k))) rfl HO5.out va E.length vc (af E) rfl G1.out g2 G3.out G4.out ?p3 ?p4 ?p5 ?_;rotate_right;intro vp vq w6 hown6 hgrow6)
   case p3=>unfold maxLen;omega
   case p4=>omega
   case p5=>exact hz5
   have hB6:=hB5.grown hgrow6 hz5 (bU HO5.out)
   have hx6:=bx HX5.out hgrow6 (de HO5.out HX5.out (by decide))
   rw[eo]at hown6
   go_roundw
   case rel =>
    refine⟨k+1,m+E.length,vp,vq,om,by go_num,rfl,?_,?_,hx6,hB6⟩
    ·rw[HSN.out,List.length_append,HM.out];omega
    ·rw[HSN.out,<-List.append_assoc];exact hown6
   case measure=>simp[intOf];omega
  ·obtain rfl:k=ln:=om
   have ht:l.take k=l:=List.take_of_length_le (by rw[HLL.out];exact Nat.le_refl _)
   have HT:=aa ht
   clear ht
   go_wp2
   go_ret
   have hown:=HOWN.out
   have hm:=HM.out
   rw[HT.out]at hown hm
   have hlen:([3]++N++bP l).length=m:=by simp;omega
   exact⟨⟨A,C,(by rw[HE.out,hlen];rfl),(by rw[HE.out,hlen];exact hown)⟩,hB⟩
theorem kT : ∀(d:Nat) (v:aT) (vs:List Value) (w:World),VR d w vs v->(aL v).length<=900000->Calls Tryz.prog 111 #[.agg vs.toArray] w (jZ w (aL v)):=by
 intro d
 induction d with
 | zero =>
  intro v vs w h hl
  cases v with
  | int n=>obtain⟨⟨h1,h2⟩,a,c,rfl⟩:=h.int_inv;exact ko n a c w h1 h2
  | text s=>obtain⟨a,c,rfl⟩:=h.text_inv;exact jG s a c w (by simp only[aL,List.length_cons,List.length_append]at hl;omega)
  | list l=>exact absurd h id
 | succ d ih =>
  intro v vs w h hl
  cases v with
  | int n=>obtain⟨⟨h1,h2⟩,a,c,rfl⟩:=h.int_inv;exact ko n a c w h1 h2
  | text s=>obtain⟨a,c,rfl⟩:=h.text_inv;exact jG s a c w (by simp only[aL,List.length_cons,List.length_append]at hl;omega)
  | list l =>
   obtain⟨e,he,a,n,c,rfl,_,h3⟩:=h.list_inv
   obtain rfl:d=e:=om
   exact ov d ih l a n c w hl h3
theorem ow (d:Nat)(IH:∀(v:aT) (vs:List Value) (w:World),VR d w vs v->(aL v).length<=900000->Calls Tryz.prog 135 #[.agg vs.toArray] w fun e w'=>e=.returned (.bool true)/\Below w.heap.size w w')
  (l:List aT) (la:Option Addr) (ln lc:Nat) (w:World) (hel:(aL (.list l)).length<=900000) (hsl:Sl 4 (VR d) w la ln l) :
  Calls Tryz.prog 135 #[.agg #[.int .i64 3,.int .i64 0,.string ⟨#[]⟩,.slice la ln lc]] w fun e w'=>e=.returned (.bool true)/\Below w.heap.size w w':=by
 have hll:l.length=ln:=hsl.len
 have hge:=nw l
 have hle:(bP l).length<=900000:=by simp only[aL,List.length_cons,List.length_append]at hel;omega
 have hln:ln<=900000:=om
 have HSL:=aa hsl
 have HLL:=aa hll
 have HIH:=aa IH
 clear hsl hll IH hge hel
 go_enter Tryz.func135,Tryz.ntmps135
 go_upto_region 7 with (fail)
 have hB1:=(Below.refl _ w).alloc (Nat.le_refl _) (.cells #[.int .i64 3,.int .i64 0,.string ⟨#[]⟩,.slice la ln lc] 88)
 obtain⟨X,hX⟩:=zg w.heap.size
 have hx1:=ak (w:=w) (.cells #[.int .i64 3,.int .i64 0,.string ⟨#[]⟩,.slice la ln lc] 88) hX
 rw[<-hX]
 generalize w.alloc (.cells #[.int .i64 3,.int .i64 0,.string ⟨#[]⟩,.slice la ln lc] 88)=w1 at *
 clear hX
 go_wp2_with fail
 go_loopw [3] (fun s3 wr=>∃k:Nat,k<=ln/\s3=.int .i64 k/\wr.heap[X]? = some (.cells #[.int .i64 3,.int .i64 0,.string ⟨#[]⟩,.slice la ln lc] 88 (0,0))/\Below w.heap.size w wr) (fun s3 _=>ln-(intOf s3).toNat)
 case atStart=>exact⟨0,Nat.zero_le _,rfl,hx1,hB1⟩
 case round =>
  clear hx1 hB1
  obtain⟨k,hk,rfl,hx,hB⟩:=hrel
  have hzr:=hB.size
  obtain⟨_,f0,f1,f2,f3,_,_⟩:=aF (Below.refl _ wr) hx
  have HXr:=aa hx
  clear hx
  by_cases hlt:k<ln
  ·obtain⟨x,hxk⟩:=av HLL.out hlt
   obtain⟨qb,qo,rfl,v0,v1,v2,v3,hvr,c0,c1,c2,c3⟩:∃qb qo,la=some ⟨qb,qo,none⟩/\∃v0 v1 v2 v3,VR d w [v0,v1,v2,v3] x/\w.cell? ⟨qb,qo+k*4,none⟩=some v0/\w.cell? ⟨qb,qo+k*4+1,none⟩=some v1/\w.cell? ⟨qb,qo+k*4+2,none⟩=some v2/\w.cell? ⟨qb,qo+k*4+3,none⟩=some v3:=by
    rcases Sl.at4 HSL.out with h0|⟨b,off,h0,hc⟩
    ·omega
    ·obtain⟨v0,v1,v2,v3,h⟩:=hc k x hxk
     exact⟨b,off,h0,v0,v1,v2,v3,h⟩
   have c0:=ag hB c0
   have c1:=ag hB c1
   have c2:=ag hB c2
   have c3:=ag hB c3
   obtain⟨vm,vs,ea,en,ec,rfl,rfl,rfl,rfl⟩:=hvr.four
   have hxl:(aL x).length<=900000:=by have hsn:=iC l k x hxk;have h2:=eP l (k+1);rw[hsn,List.length_append]at h2;omega
   have HIX:=aa (HIH.out x _ wr (VR.below d _ _ _ _ hB hvr) hxl)
   clear hxk hvr
   go_wp2_with fail
   refine HIX.out.mono ?_
   rintro e w5 ⟨rfl,hS5⟩
   have hB5:=hB.trans (hS5.mono hzr)
   have hx5:=(hS5.block _ (lt_of_block HXr.out)).trans HXr.out
   have HX5:=aa hx5
   clear hS5 HIX c0 c1 c2 c3 f0 f1 f2 f3 hx5
   go_wp2
   go_roundw
   case rel=>exact⟨k+1,om,by go_num,HX5.out,hB5⟩
   case measure=>simp[intOf];omega
  ·obtain rfl:k=ln:=om
   go_wp2
   go_ret
   exact⟨rfl,hB⟩
theorem ku (n:Int)(la:Option Addr)(lc:Nat)(w:World):Calls Tryz.prog 135 #[.agg #[.int .i64 1,.int .i64 n,.string ⟨#[]⟩,.slice la 0 lc]] w fun e w'=>e=.returned (.bool true)/\Below w.heap.size w w':=by
 go_enter Tryz.func135,Tryz.ntmps135
 go_wp2
 go_ret
 exact⟨rfl,by go_grown⟩
theorem jH (s:List UInt8)(la:Option Addr)(lc:Nat)(w:World):Calls Tryz.prog 135 #[.agg #[.int .i64 2,.int .i64 0,.string (aw s),.slice la 0 lc]] w fun e w'=>e=.returned (.bool true)/\Below w.heap.size w w':=by
 go_enter Tryz.func135,Tryz.ntmps135
 go_wp2
 go_ret
 exact⟨rfl,by go_grown⟩
theorem uw : ∀(d:Nat) (v:aT) (vs:List Value) (w:World),VR d w vs v->(aL v).length<=900000->Calls Tryz.prog 135 #[.agg vs.toArray] w fun e w'=>e=.returned (.bool true)/\Below w.heap.size w w':=by
 intro d
 induction d with
 | zero =>
  intro v vs w h hl
  cases v with
  | int n=>obtain⟨_,a,c,rfl⟩:=h.int_inv;exact ku n a c w
  | text s=>obtain⟨a,c,rfl⟩:=h.text_inv;exact jH s a c w
  | list l=>exact absurd h id
 | succ d ih =>
  intro v vs w h hl
  cases v with
  | int n=>obtain⟨_,a,c,rfl⟩:=h.int_inv;exact ku n a c w
  | text s=>obtain⟨a,c,rfl⟩:=h.text_inv;exact jH s a c w
  | list l =>
   obtain⟨e,he,a,n,c,rfl,_,h3⟩:=h.list_inv
   obtain rfl:d=e:=om
   exact ow d ih l a n c w hl h3
def jI (d:Nat)(e:Ending):Prop:=∃m:Nat,m<=d/\e=.returned (.int .i64 m)
theorem pp (d:Nat)(hd:d<=1000)(IH:∀(v:aT) (vs:List Value) (w:World),VR d w vs v->(aL v).length<=900000->Calls Tryz.prog 136 #[.agg vs.toArray] w fun e w'=>jI d e/\Below w.heap.size w w')
  (l:List aT) (la:Option Addr) (ln lc:Nat) (w:World) (hel:(aL (.list l)).length<=900000) (hsl:Sl 4 (VR d) w la ln l) :
  Calls Tryz.prog 136 #[.agg #[.int .i64 3,.int .i64 0,.string ⟨#[]⟩,.slice la ln lc]] w fun e w'=>jI (d+1) e/\Below w.heap.size w w':=by
 have hll:l.length=ln:=hsl.len
 have hge:=nw l
 have hle:(bP l).length<=900000:=by simp only[aL,List.length_cons,List.length_append]at hel;omega
 have hln:ln<=900000:=om
 have HSL:=aa hsl
 have HLL:=aa hll
 have HIH:=aa IH
 clear hsl hll IH hge hel
 go_enter Tryz.func136,Tryz.ntmps136
 go_upto_region 3 with (fail)
 have hB1:=(Below.refl _ w).alloc (Nat.le_refl _) (.cells #[.int .i64 3,.int .i64 0,.string ⟨#[]⟩,.slice la ln lc] 88)
 obtain⟨X,hX⟩:=zg w.heap.size
 have hx1:=ak (w:=w) (.cells #[.int .i64 3,.int .i64 0,.string ⟨#[]⟩,.slice la ln lc] 88) hX
 rw[<-hX]
 generalize w.alloc (.cells #[.int .i64 3,.int .i64 0,.string ⟨#[]⟩,.slice la ln lc] 88)=w1 at *
 clear hX
 go_wp2_with fail
 go_loopw [3,4] (fun s3 s4 wr=>∃k m:Nat,k<=ln/\m<=d/\s4=.int .i64 k/\s3=.int .i64 m/\wr.heap[X]? = some (.cells #[.int .i64 3,.int .i64 0,.string ⟨#[]⟩,.slice la ln lc] 88 (0,0))/\Below w.heap.size w wr) (fun _ s4 _=>ln-(intOf s4).toNat)
 case atStart=>exact⟨0,0,Nat.zero_le _,Nat.zero_le _,rfl,rfl,hx1,hB1⟩
 case round =>
  clear hx1 hB1
  obtain⟨k,m,hk,hmd,rfl,rfl,hx,hB⟩:=hrel
  have hzr:=hB.size
  obtain⟨_,f0,f1,f2,f3,_,_⟩:=aF (Below.refl _ wr) hx
  have HXr:=aa hx
  clear hx
  by_cases hlt:k<ln
  ·obtain⟨x,hxk⟩:=av HLL.out hlt
   obtain⟨qb,qo,rfl,v0,v1,v2,v3,hvr,c0,c1,c2,c3⟩:∃qb qo,la=some ⟨qb,qo,none⟩/\∃v0 v1 v2 v3,VR d w [v0,v1,v2,v3] x/\w.cell? ⟨qb,qo+k*4,none⟩=some v0/\w.cell? ⟨qb,qo+k*4+1,none⟩=some v1/\w.cell? ⟨qb,qo+k*4+2,none⟩=some v2/\w.cell? ⟨qb,qo+k*4+3,none⟩=some v3:=by
    rcases Sl.at4 HSL.out with h0|⟨b,off,h0,hc⟩
    ·omega
    ·obtain⟨v0,v1,v2,v3,h⟩:=hc k x hxk
     exact⟨b,off,h0,v0,v1,v2,v3,h⟩
   have c0:=ag hB c0
   have c1:=ag hB c1
   have c2:=ag hB c2
   have c3:=ag hB c3
   obtain⟨vm,vs,ea,en,ec,rfl,rfl,rfl,rfl⟩:=hvr.four
   have hxl:(aL x).length<=900000:=by have hsn:=iC l k x hxk;have h2:=eP l (k+1);rw[hsn,List.length_append]at h2;omega
   have HIX:=aa (HIH.out x _ wr (VR.below d _ _ _ _ hB hvr) hxl)
   clear hxk hvr
   go_wp2_with fail
   refine HIX.out.mono ?_
   rintro e w5 ⟨⟨q,hq,rfl⟩,hS5⟩
   have hB5:=hB.trans (hS5.mono hzr)
   have hx5:=(hS5.block _ (lt_of_block HXr.out)).trans HXr.out
   have HX5:=aa hx5
   clear hS5 HIX c0 c1 c2 c3 f0 f1 f2 f3 hx5
   go_wp2
   go_roundw
   case rel=>exact⟨k+1,max m q,om,om,by go_num,by congr 1;split<;>omega,HX5.out,hB5⟩
   case measure=>simp[intOf];omega
  ·obtain rfl:k=ln:=om
   go_wp2
   go_ret
   exact⟨⟨m+1,om,rfl⟩,hB⟩
theorem lj (n:Int)(la:Option Addr)(lc:Nat)(w:World):Calls Tryz.prog 136 #[.agg #[.int .i64 1,.int .i64 n,.string ⟨#[]⟩,.slice la 0 lc]] w fun e w'=>jI 0 e/\Below w.heap.size w w':=by
 go_enter Tryz.func136,Tryz.ntmps136
 go_wp2
 go_ret
 exact⟨⟨0,Nat.le_refl _,rfl⟩,by go_grown⟩
theorem kv (s:List UInt8)(la:Option Addr)(lc:Nat)(w:World):Calls Tryz.prog 136 #[.agg #[.int .i64 2,.int .i64 0,.string (aw s),.slice la 0 lc]] w fun e w'=>jI 0 e/\Below w.heap.size w w':=by
 go_enter Tryz.func136,Tryz.ntmps136
 go_wp2
 go_ret
 exact⟨⟨0,Nat.le_refl _,rfl⟩,by go_grown⟩
theorem jI.mono {d e:Nat}{x:Ending}(h:jI d x)(hd:d<=e):jI e x:=by obtain⟨m,h1,h2⟩:=h;exact⟨m,Nat.le_trans h1 hd,h2⟩
theorem wK : ∀(d:Nat),d<=1000->∀(v:aT) (vs:List Value) (w:World),VR d w vs v->(aL v).length<=900000->Calls Tryz.prog 136 #[.agg vs.toArray] w fun e w'=>jI d e/\Below w.heap.size w w':=by
 intro d
 induction d with
 | zero =>
  intro _ v vs w h hl
  cases v with
  | int n=>obtain⟨_,a,c,rfl⟩:=h.int_inv;exact lj n a c w
  | text s=>obtain⟨a,c,rfl⟩:=h.text_inv;exact kv s a c w
  | list l=>exact absurd h id
 | succ d ih =>
  intro hd v vs w h hl
  cases v with
  | int n=>obtain⟨_,a,c,rfl⟩:=h.int_inv;exact(lj n a c w).mono fun e w' ⟨h1,h2⟩=>⟨h1.mono (Nat.zero_le _),h2⟩
  | text s=>obtain⟨a,c,rfl⟩:=h.text_inv;exact(kv s a c w).mono fun e w' ⟨h1,h2⟩=>⟨h1.mono (Nat.zero_le _),h2⟩
  | list l =>
   obtain⟨e,he,a,n,c,rfl,_,h3⟩:=h.list_inv
   obtain rfl:d=e:=om
   exact pp d om (ih om) l a n c w hl h3
theorem lK (d:Nat)(hd:d<=16)(v:aT)(v0 v1 v2 v3:Value)(w:World)(hl:(aL v).length<=900000)(h:VR d w [v0,v1,v2,v3] v) :
  Calls Tryz.prog 110 #[.agg #[v0,v1,v2,v3]] w fun e w'=>e=.returned (.int .i64 0)/\Below w.heap.size w w':=by
 obtain⟨vm,vs,ea,en,ec,rfl,rfl,rfl,rfl⟩:=h.four
 have H:=aa h
 clear h
 go_enter Tryz.func110,Tryz.ntmps110
 go_upto_region 1 with (fail)
 obtain⟨X,hX⟩:=zg w.heap.size
 have hB:=(Below.refl _ w).alloc (Nat.le_refl _) (.cells #[.int .i64 (bi v),.int .i64 vm,.string vs,.slice ea en ec] 88)
 have hx:=ak (w:=w) (.cells #[.int .i64 (bi v),.int .i64 vm,.string vs,.slice ea en ec] 88) hX
 rw[<-hX]
 generalize w.alloc (.cells #[.int .i64 (bi v),.int .i64 vm,.string vs,.slice ea en ec] 88)=w1 at *
 clear hX
 have H1:=aa (VR.below d _ _ _ _ hB H.out)
 have HX:=aa hx
 obtain⟨_,f0,f1,f2,f3,_,_⟩:=aF (Below.refl _ w1) hx
 clear hx
 go_wp2_with fail
 refine(uw d v _ w1 H1.out hl).mono ?_
 rintro e w2 ⟨rfl,hB2⟩
 have hb2:=hB.trans (hB2.mono hB.size)
 have hx2:=(hB2.block _ (lt_of_block HX.out)).trans HX.out
 have H2:=aa (VR.below d _ _ _ _ hB2 H1.out)
 clear f0 f1 f2 f3 hB hB2 HX H1
 obtain⟨_,f0,f1,f2,f3,_,_⟩:=aF (Below.refl _ w2) hx2
 clear hx2
 go_wp2_with fail
 refine(wK d om v _ w2 H2.out hl).mono ?_
 rintro e w3 ⟨⟨m,hm,rfl⟩,hB3⟩
 have hb3:=hb2.trans (hB3.mono hb2.size)
 have k1:¬(16:Int)<(m:Int):=om
 clear f0 f1 f2 f3 hB3
 go_wp2
 go_ret
 exact⟨rfl,hb3⟩
theorem ux (d:Nat)(hd:d<=16)(v:aT)(E:List UInt8)(hE:aL v=E)(v0 v1 v2 v3:Value)(w:World)(hl:E.length<=900000)(h:VR d w [v0,v1,v2,v3] v) :
  Calls Tryz.prog 76 #[.agg #[v0,v1,v2,v3]] w fun e w'=>(∃va vc,e=.returned (.tuple #[.slice va E.length vc,.int .i64 0])/\E.length<=vc/\Sl 1 ai w' va E.length E)/\Below w.heap.size w w':=by
 have HE:=aa hE
 have hl':(aL v).length<=900000:=by rw[hE];exact hl
 clear hE
 obtain⟨vm,vs,ea,en,ec,rfl,rfl,rfl,rfl⟩:=h.four
 have H:=aa h
 clear h
 go_enter Tryz.func76,Tryz.ntmps76
 go_upto_region 1 with (fail)
 obtain⟨X,hX⟩:=zg w.heap.size
 have hB:=(Below.refl _ w).alloc (Nat.le_refl _) (.cells #[.int .i64 (bi v),.int .i64 vm,.string vs,.slice ea en ec] 88)
 have hx:=ak (w:=w) (.cells #[.int .i64 (bi v),.int .i64 vm,.string vs,.slice ea en ec] 88) hX
 rw[<-hX]
 generalize w.alloc (.cells #[.int .i64 (bi v),.int .i64 vm,.string vs,.slice ea en ec] 88)=w1 at *
 clear hX
 have H1:=aa (VR.below d _ _ _ _ hB H.out)
 have HX:=aa hx
 obtain⟨_,f0,f1,f2,f3,_,_⟩:=aF (Below.refl _ w1) hx
 clear hx
 go_wp2_with fail
 refine(lK d hd v _ _ _ _ w1 hl' H1.out).mono ?_
 rintro e w2 ⟨rfl,hB2⟩
 have hb2:=hB.trans (hB2.mono hB.size)
 have hx2:=(hB2.block _ (lt_of_block HX.out)).trans HX.out
 have H2:=aa (VR.below d _ _ _ _ hB2 H1.out)
 clear f0 f1 f2 f3 hB hB2 HX H1
 obtain⟨_,f0,f1,f2,f3,_,_⟩:=aF (Below.refl _ w2) hx2
 clear hx2
 have hc:=kT d v _ w2 H2.out hl'
 rw[HE.out]at hc
 have HC:=aa hc
 clear hc
 go_wp2_with fail
 refine HC.out.mono ?_
 rintro e w3 ⟨⟨va,vc,rfl,hown⟩,hB3⟩
 have hb3:=hb2.trans (hB3.mono hb2.size)
 obtain⟨q1,q2⟩:=fE hown rfl
 clear f0 f1 f2 f3 hB3 hown
 go_wp2
 go_ret2
 exact⟨⟨va,vc,rfl,q1,q2⟩,hb3⟩
end Go.Proofs.YtmflnpdmlfmcpaaGreatDoor.Dr
