/- Joined texts. -/
import Derived.Test.YtmflnpdmlfmcpaaGreatDoorJp01
import Derived.Test.YtmflnpdmlfmcpaaGreatDoorJp02
import Derived.Deep.RegionHeld3
set_option maxRecDepth 100000
set_option maxHeartbeats 4000000
namespace Go.Proofs.YtmflnpdmlfmcpaaGreatDoor
open Go.RowKit
variable {Nz : Nat}
theorem lA {b:List UInt8}(h:112<an b):cE b=false:=by
 unfold cE;rw[decide_eq_false (show ¬an b<=112 by omega)];rfl
theorem nW {b:List UInt8}(h:3<bq b):cE b=false:=by
 unfold cE;rw[decide_eq_false (show ¬bq b<=3 by omega)];simp
theorem mI {b:List UInt8}(h:bq b<2)(h2:an b<112):cE b=false:=by
 unfold cE;rw[decide_eq_false (show ¬2<=bq b by omega),decide_eq_false (show ¬112<=an b by omega)];simp
theorem t8 {b:List UInt8}(h:bq b%2=0)(h2:an b=0):cE b=false:=by
 unfold cE;rw[decide_eq_false (show ¬bq b%2=1 by omega),decide_eq_true h2];simp
theorem kJ {b:List UInt8}(h1:an b<=112)(h2:bq b<=3)(h3:2<=bq b\/112<=an b)(h4:bq b%2=1\/an b≠0):cE b=true:=by
 simp[cE,h1,h2,h3,h4]
theorem nX {b:List UInt8}{k:Nat}(h:cE b=false):cr b k=false:=by simp[cr,h]
theorem vS {b:List UInt8}{k:Nat}(h:bH b=0):cr b k=false:=by simp[cr,h]
theorem yi {b:List UInt8}{k:Nat}(h:cE b=true)(h2:0<bH b):cr b k=decide (b=eK (bH b) k (bq b) (bC b)):=by simp[cr,h,h2]
theorem gQ {w:World}{f o n:Nat}{bs:List UInt8}(h:Sl 1 ai w (some ⟨f,o,none⟩) n bs)(i k:Nat)(hk:i+k<=n):Sl 1 ai w (some ⟨f,o+i,none⟩) k ((bs.drop i).take k):=by
 have hl:=h.len
 refine⟨by simp;omega,.inr ⟨f,o+i,rfl,fun j x hx=>⟨[.int .u8 x.toNat],rfl,rfl,fun q v hv => ?_⟩⟩⟩
 match q,hv with
 | 0,hv =>
  simp only[List.getElem?_cons_zero,Option.some.injEq]at hv
  subst hv
  rw[List.getElem?_take]at hx
  split at hx
  ·rw[List.getElem?_drop]at hx
   rcases h.bytes with h0|⟨b',o',e,hc⟩
   ·omega
   ·cases e
    have:=hc (i+j) x hx
    rw[show o+(i+j)=o+i+j*1+0 by omega]at this
    exact this
  ·cases hx
theorem lB {w:World}{f o:Nat}{b:List UInt8}(h:Sl 1 ai w (some ⟨f,o,none⟩) 128 b):w.cell? ⟨f,o+10,none⟩=some (.int .u8 (bq b))/\w.cell? ⟨f,o+11,none⟩=some (.int .u8 (an b)):=by
 have hl:=h.len
 rcases h.bytes with h0|⟨b',o',e,hc⟩
 ·omega
 ·cases e
  obtain⟨x,hx⟩:=av hl (show 10<128 by omega)
  obtain⟨y,hy⟩:=av hl (show 11<128 by omega)
  have h1:=hc 10 x hx
  have h2:=hc 11 y hy
  simp only[bq,an,List.getD,hx,hy,Option.getD_some]
  exact⟨h1,h2⟩
theorem yj (f o c k:Nat)(b:List UInt8)(w:World)(hc:128<=c)(hk:k<65536)(h:Sl 1 ai w (some ⟨f,o,none⟩) 128 b) :
  Calls Tryz.prog 98 #[.slice (some ⟨f,o,none⟩) 128 c,.int .i64 k] w fun e w'=>e=.returned (.bool (cr b k))/\Below w.heap.size w w':=by
 obtain⟨c10,c11⟩:=lB h
 have HS:=aa h
 obtain⟨kd,hkd⟩:=zg (bq b)
 obtain⟨m,hm⟩:=zg (an b)
 rw[<-hkd]at c10
 rw[<-hm]at c11
 have hm256:m<256:=by rw[hm];exact(b.getD 11 0).toNat_lt
 have hkd256:kd<256:=by rw[hkd];exact(b.getD 10 0).toNat_lt
 have HF:Hid (∀r:Bool,cE b=r->cE b=r):=fun _ h=>h
 have KD:=aa hkd
 have HM:=aa hm
 have wm:IntKind.i64.wrap (m:Int)=(m:Int):=by rw[IntKind.wrap_i64];omega
 have a02:bits .and .u8 0 2=0:=by decide
 have a12:bits .and .u8 1 2=0:=by decide
 have a22:bits .and .u8 2 2=2:=by decide
 have a32:bits .and .u8 3 2=2:=by decide
 have a01:bits .and .u8 0 1=0:=by decide
 have a11:bits .and .u8 1 1=1:=by decide
 have a21:bits .and .u8 2 1=0:=by decide
 have a31:bits .and .u8 3 1=1:=by decide
 clear h hkd hm
 go_enter Tryz.func98,Tryz.ntmps98
 go_upto_region 2 with (fail)
 go_cut [40] (fun s40 wx=>s40=.bool (!cE b)/\w=wx)
 case first =>
  have kd':=KD.out
  have m':=HM.out
  by_cases h1:112<m
  ·have HV:Hid (cE b=false):=lA om
   clear kd' m'
   go_wp2
   go_meet
   exact⟨by rw[HV.out];first|rfl|(simp;done)|(simp;omega),rfl⟩
  by_cases h2:3<kd
  ·have HV:Hid (cE b=false):=nW om
   clear kd' m'
   go_wp2
   go_meet
   exact⟨by rw[HV.out];first|rfl|(simp;done)|(simp;omega),rfl⟩
  rcases(show kd=0\/kd=1\/kd=2\/kd=3 by omega) with h3|h3|h3|h3
  ·replace c10:w.cell? ⟨f,o+10,none⟩=some (.int .u8 0):=by rw[c10,h3];rfl
   by_cases h4:m<112
   ·have HV:Hid (cE b=false):=mI om om
    clear kd' m' h3
    go_wp2
    go_meet
    exact⟨by rw[HV.out];first|rfl|(simp;done)|(simp;omega),rfl⟩
   ·have HV:Hid (cE b=true):=kJ om om (.inr om) (.inr om)
    clear kd' m' h3
    go_wp2
    go_meet
    exact⟨by rw[HV.out];first|rfl|(simp;done)|(simp;omega),rfl⟩
  ·replace c10:w.cell? ⟨f,o+10,none⟩=some (.int .u8 1):=by rw[c10,h3];rfl
   by_cases h4:m<112
   ·have HV:Hid (cE b=false):=mI om om
    clear kd' m' h3
    go_wp2
    go_meet
    exact⟨by rw[HV.out];first|rfl|(simp;done)|(simp;omega),rfl⟩
   ·have HV:Hid (cE b=true):=kJ om om (.inr om) (.inl om)
    clear kd' m' h3
    go_wp2
    go_meet
    exact⟨by rw[HV.out];first|rfl|(simp;done)|(simp;omega),rfl⟩
  ·replace c10:w.cell? ⟨f,o+10,none⟩=some (.int .u8 2):=by rw[c10,h3];rfl
   by_cases h4:m=0
   ·have HV:Hid (cE b=false):=t8 om om
    replace c11:w.cell? ⟨f,o+11,none⟩=some (.int .u8 0):=by rw[c11,h4];rfl
    clear kd' m' h3
    subst h4
    go_wp2
    go_meet
    exact⟨by rw[HV.out];first|rfl|(simp;done)|(simp;omega),rfl⟩
   ·have HV:Hid (cE b=true):=kJ om om (.inl om) (.inr om)
    clear kd' m' h3
    go_wp2
    go_meet
    exact⟨by rw[HV.out];first|rfl|(simp;done)|(simp;omega),rfl⟩
  ·replace c10:w.cell? ⟨f,o+10,none⟩=some (.int .u8 3):=by rw[c10,h3];rfl
   have HV:Hid (cE b=true):=kJ om om (.inl om) (.inl om)
   clear kd' m' h3
   go_wp2
   go_meet
   exact⟨by rw[HV.out];first|rfl|(simp;done)|(simp;omega),rfl⟩
 case rest =>
 obtain⟨rfl,rfl⟩:=hcut
 clear a02 a12 a22 a32 a01 a11 a21 a31
 cases hf:cE b
 ·have HV:Hid (cr b k=false):=nX hf
  clear hf
  go_wp2
  go_ret
  exact⟨bK HV.out.symm,Below.refl _ _⟩
 ·have hm112:m<=112:=by
   have h1:=HM.out
   rcases Nat.lt_or_ge 112 (an b) with h2|h2
   ·rw[lA h2]at hf;cases hf
   ·omega
  obtain⟨g,hg⟩:=zg (bH b)
  have hgl:g<4294967296:=by
   rw[hg]
   have h1:=mb (b.take 4)
   have h2:(b.take 4).length=4:=by simp;have:=HS.out.len;omega
   rw[h2]at h1
   exact h1
  have HG:Hid (∀c':Nat,Calls Tryz.prog 46 #[.slice (some ⟨f,o,none⟩) 4 c'] w fun e w'=>e=.returned (.int .u64 g)/\w=w'):=fun c'=>by
   rw[hg]
   exact iS _ 4 c' (b.take 4) w om (gQ HS.out 0 4 om)
  have GG:=aa hg
  have HFO:=aa hf
  clear hf hg HF
  go_wp2_with fail
  refine(HG.out _).mono ?_
  rintro e w' ⟨rfl,rfl⟩
  by_cases hg0:g=0
  ·have HV:Hid (cr b k=false):=vS (by rw[<-GG.out];exact hg0)
   subst hg0
   go_wp2_with fail
   go_quiet (fail)
   go_wp2
   go_ret
   exact⟨bK HV.out.symm,below_drewN (Below.refl _ w) nq⟩
  ·have HV:Hid (cr b k=decide (b=eK g k kd (bC b))):=by
    show _=_
    rw[yi HFO.out (by rw[<-GG.out];omega),<-GG.out,<-KD.out]
   obtain⟨S,hS⟩:=zg (eK g k kd (bC b))
   have hSl:S.length=128:=by
    rw[hS]
    refine jT _ _ _ ?_
    unfold bC
    rw[<-HM.out]
    simp
    omega
   have HP:Hid (∀W,Below w.heap.size w W->Sl 1 ai W (some ⟨f,o+12,none⟩) m (bC b)):=fun W hW=>by
    unfold bC
    rw[<-HM.out]
    exact gQ (HS.out.below ai.keeps hW) 12 m om
   have HE:Hid (∀c' W,Below w.heap.size w W->Calls Tryz.prog 50 #[.int .u64 g,.int .i64 k,.int .u8 kd,.slice (some ⟨f,o+12,none⟩) m c'] W fun e w'=>e=.returned (.slice (some ⟨W.heap.size,0,none⟩) 128 128)/\ac w' W.heap.size 115 (af S)/\Below W.heap.size W w'):=fun c' W hW=>by
    rw[hS]
    exact gP g k kd _ m c' (bC b) W om hk hkd256 hm112 (HP.out W hW)
   have HQ:Hid (∀W B,Below w.heap.size w W->ac W B 115 (af S)->Calls Tryz.prog 48 #[.slice (some ⟨f,o,none⟩) 128 c,.slice (some ⟨B,0,none⟩) 128 128] W fun e w'=>e=.returned (.bool (decide (b=S)))/\W=w'):=fun W B hW hB =>
    iA _ _ _ _ _ _ _ _ W (HS.out.below ai.keeps hW) (fs S 128 hSl hB)
   have w12:IntKind.i64.wrap (12+(m:Int))=12+(m:Int):=by rw[IntKind.wrap_i64];omega
   have SS:=aa hS
   have SL:=aa hSl
   have hd:Below w.heap.size w w.drew:=(Below.refl _ w).drew
   rw[<-hS]at HV
   have hgA:decide ((0:Int)<(g:Int))=true:=by simp;omega
   have hgB:decide (0<g)=true:=by simp;omega
   have hgC:0<g:=om
   have s1:(0:Int)<=12+(m:Int):=om
   have s2:12+(m:Int)<=(c:Int):=om
   have s3:(12:Int)<=12+(m:Int):=om
   have s4:¬c=12:=om
   have s5:(12+(m:Int)).toNat=12+m:=om
   clear hS hSl
   go_wp2_with fail
   go_region_held3 (fun W=>W.cell? ⟨f,o+10,none⟩=some (.int .u8 kd))
    (first|exact ag hBb ‹_› | go_keep)
    (first
     | (go_at_call 50;refine(HE.out _ _ hd).mono ?_;rintro e w2 ⟨rfl,hr,hBb⟩;have HR:=aa hr;clear hr)
     | (go_at_call 48;refine(HQ.out _ _ (hd.trans hBb) HR.out).mono ?_;rintro e w' ⟨rfl,rfl⟩))
   go_wp2
   go_ret
   exact⟨bK HV.out.symm,hd.trans hBb⟩
end Go.Proofs.YtmflnpdmlfmcpaaGreatDoor
