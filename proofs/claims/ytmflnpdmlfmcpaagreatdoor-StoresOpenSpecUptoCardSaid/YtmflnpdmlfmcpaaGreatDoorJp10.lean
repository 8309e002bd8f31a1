/- Joined texts. -/
import Derived.Test.YtmflnpdmlfmcpaaGreatDoorJp03
import Derived.Test.YtmflnpdmlfmcpaaGreatDoorJp08
import Derived.Test.YtmflnpdmlfmcpaaGreatDoorJp09
import Derived.Deep.LoopGhost
import Derived.WalkMore
set_option maxRecDepth 100000
set_option maxHeartbeats 8000000
namespace Go.Proofs.YtmflnpdmlfmcpaaGreatDoor
open Go.RowKit
variable {Nz : Nat}
theorem DQ (f o c k:Nat)(b:List UInt8)(w:World)(hc:128<=c)(hk:k<65536)(h:Sl 1 ai w (some ⟨f,o,none⟩) 128 b) :
  Calls Tryz.prog 130 #[.slice (some ⟨f,o,none⟩) 128 c,.int .i64 k] w fun e w'=>e=.returned (.bool (cr b k))/\∃z,w'=w.drewN z:=by
 obtain⟨c10,c11⟩:=lB h
 have hbl:=h.len
 obtain⟨kd,hkd⟩:=zg (bq b)
 obtain⟨m,hm⟩:=zg (an b)
 rw[<-hkd]at c10
 rw[<-hm]at c11
 have hm256:m<256:=by rw[hm];exact(b.getD 11 0).toNat_lt
 have hkd256:kd<256:=by rw[hkd];exact(b.getD 10 0).toNat_lt
 obtain⟨g,hg⟩:=zg (bH b)
 obtain⟨t,ht⟩:=zg (cQ b)
 obtain⟨q,hq⟩:=zg (dU ((b.drop 4).take 4))
 obtain⟨r,hr⟩:=zg (dU ((b.drop 8).take 2))
 obtain⟨s,hs⟩:=zg (ne ((b.drop 8).take 116))
 have hgl:g<4294967296:=by
  have h1:=mb (b.take 4)
  rw[show (b.take 4).length=4 by simp;omega]at h1
  rw[hg];exact h1
 have hql:q<4294967296:=by
  have h1:=mb ((b.drop 4).take 4)
  rw[show ((b.drop 4).take 4).length=4 by simp;omega]at h1
  rw[hq];exact h1
 have hrl:r<65536:=by
  have h1:=mb ((b.drop 8).take 2)
  rw[show ((b.drop 8).take 2).length=2 by simp;omega]at h1
  rw[hr];exact h1
 have htl:t<4294967296:=by
  have h1:=mb (b.drop 124)
  rw[show (b.drop 124).length=4 by simp;omega]at h1
  rw[ht];exact h1
 have hsl:s<4294967296:=by rw[hs];exact Ae _
 have B0:Hid (∀(c':Nat) W,Below w.heap.size w W->Calls Tryz.prog 104 #[.slice (some ⟨f,o,none⟩) 4 c'] W fun e w'=>e=.returned (.int .u64 g)/\w'=W):=fun c' W hW=>by
  rw[hg]
  exact(kD _ 4 c' (b.take 4) W om (gQ (h.below ai.keeps hW) 0 4 om)).mono fun _ _ ⟨h1,h2⟩=>⟨h1,h2.symm⟩
 have B1:Hid (∀(c':Nat) W,Below w.heap.size w W->Calls Tryz.prog 104 #[.slice (some ⟨f,o+124,none⟩) 4 c'] W fun e w'=>e=.returned (.int .u64 t)/\w'=W):=fun c' W hW=>by
  have h1:(b.drop 124).take 4=b.drop 124:=List.take_of_length_le (by simp;omega)
  rw[ht,cQ,<-h1]
  exact(kD _ 4 c' _ W om (gQ (h.below ai.keeps hW) 124 4 om)).mono fun _ _ ⟨h1,h2⟩=>⟨h1,h2.symm⟩
 have B2:Hid (∀(c':Nat) W,Below w.heap.size w W->Calls Tryz.prog 104 #[.slice (some ⟨f,o+4,none⟩) 4 c'] W fun e w'=>e=.returned (.int .u64 q)/\w'=W):=fun c' W hW=>by
  rw[hq]
  exact(kD _ 4 c' _ W om (gQ (h.below ai.keeps hW) 4 4 om)).mono fun _ _ ⟨h1,h2⟩=>⟨h1,h2.symm⟩
 have B3:Hid (∀(c':Nat) W,Below w.heap.size w W->Calls Tryz.prog 104 #[.slice (some ⟨f,o+8,none⟩) 2 c'] W fun e w'=>e=.returned (.int .u64 r)/\w'=W):=fun c' W hW=>by
  rw[hr]
  exact(kD _ 2 c' _ W om (gQ (h.below ai.keeps hW) 8 2 om)).mono fun _ _ ⟨h1,h2⟩=>⟨h1,h2.symm⟩
 have B4:Hid (∀(c':Nat) W,Below w.heap.size w W->Calls Tryz.prog 107 #[.slice (some ⟨f,o+8,none⟩) 116 c'] W fun e w'=>e=.returned (.int .u32 s)/\w'=W):=fun c' W hW=>by
  rw[hs]
  exact(Dh _ 116 c' _ W om (gQ (h.below ai.keeps hW) 8 116 om)).mono fun _ _ ⟨h1,h2⟩=>⟨h1,h2.symm⟩
 have HG:Hid (∀z,cr b k=z ↔ (cE b && decide (0<g) && decide (g=t) && decide (q=s) && decide (r=k) && decide ((b.drop (12+m)).take (112-m)=List.replicate (112-m) 0))=z):=fun z=>by
  rw[<-Ej hbl hk,Di,hg,ht,hq,hr,hs,hm]
 have HF:Hid (∀z,cE b=z ↔ (decide (m<=112) && decide (kd<=3) && (decide (2<=kd) || decide (112<=m)) && (decide (kd%2=1) || !decide (m=0)))=z):=fun z=>by
  rw[cE,hkd,hm]
 have HS:=aa h
 have wm:IntKind.i64.wrap (m:Int)=(m:Int):=by rw[IntKind.wrap_i64];omega
 have wq:IntKind.u32.wrap (q:Int)=(q:Int):=by rw[IntKind.wrap_u32];omega
 have wk:IntKind.u64.wrap (k:Int)=(k:Int):=by rw[IntKind.wrap_u64];omega
 have wn:IntKind.i64.wrap (12+(m:Int))=12+(m:Int):=by rw[IntKind.wrap_i64];omega
 have HBL:=aa hbl
 have HM:=aa hm
 clear h hkd hm hg ht hq hr hs hbl
 go_enter Tryz.func130,Tryz.ntmps130
 go_upto_region 2 with (fail)
 go_cut [72] (fun s72 wx=>s72=.bool (!(cE b && decide (0<g) && decide (g=t) && decide (q=s) && decide (r=k)))/\∃z,wx=w.drewN z)
 case first =>
  refine wp_region_quiet_lit kr kr ?_
  by_cases h1:g=0
  ·have HV:Hid ((cE b && decide (0<g) && decide (g=t) && decide (q=s) && decide (r=k))=false):=by show _=_;rw[decide_eq_false (show ¬0<g by omega)];simp
   have z1:((g:Int) == 0)=true:=by simp;omega
   have z2:(g == 0)=true:=by simp;omega
   repeat (go_big_quiet_step ((first|(go_at_call 104;first|with_reducible exact Calls.quiet_of_same (B0.out _ _ (below_drewN (Below.refl _ w) _))|with_reducible exact Calls.quiet_of_same (B1.out _ _ (below_drewN (Below.refl _ w) _))|with_reducible exact Calls.quiet_of_same (B2.out _ _ (below_drewN (Below.refl _ w) _))|with_reducible exact Calls.quiet_of_same (B3.out _ _ (below_drewN (Below.refl _ w) _)))|(go_at_call 107;with_reducible exact Calls.quiet_of_same (B4.out _ _ (below_drewN (Below.refl _ w) _))))))
   refine wpQuiet_nil ?_
   intro _ ⟨nq,hnq⟩
   subst hnq
   go_wp2
   go_meet
   exact⟨by (first|rw[HV.out]|rw[HE.out,HV.out]);first|rfl|(simp;done)|(simp;omega),nq,rfl⟩
  have z1:((g:Int) == 0)=false:=by simp;omega
  have z2:(g == 0)=false:=by simp;omega
  by_cases h1:g=t
  rotate_left
  ·have HV:Hid ((cE b && decide (0<g) && decide (g=t) && decide (q=s) && decide (r=k))=false):=by show _=_;rw[decide_eq_false h1];simp
   have z3:((g:Int) == (t:Int))=false:=by simp;omega
   have z4:((g:Int) != (t:Int))=true:=by simp;omega
   have z5:(g == t)=false:=by simp;omega
   repeat (go_big_quiet_step ((first|(go_at_call 104;first|with_reducible exact Calls.quiet_of_same (B0.out _ _ (below_drewN (Below.refl _ w) _))|with_reducible exact Calls.quiet_of_same (B1.out _ _ (below_drewN (Below.refl _ w) _))|with_reducible exact Calls.quiet_of_same (B2.out _ _ (below_drewN (Below.refl _ w) _))|with_reducible exact Calls.quiet_of_same (B3.out _ _ (below_drewN (Below.refl _ w) _)))|(go_at_call 107;with_reducible exact Calls.quiet_of_same (B4.out _ _ (below_drewN (Below.refl _ w) _))))))
   refine wpQuiet_nil ?_
   intro _ ⟨nq,hnq⟩
   subst hnq
   go_wp2
   go_meet
   exact⟨by (first|rw[HV.out]|rw[HE.out,HV.out]);first|rfl|(simp;done)|(simp;omega),nq,rfl⟩
  subst h1
  by_cases h1:q=s
  rotate_left
  ·have HV:Hid ((cE b && decide (0<g) && decide (g=g) && decide (q=s) && decide (r=k))=false):=by show _=_;rw[decide_eq_false h1];simp
   have z3:((q:Int) == (s:Int))=false:=by simp;omega
   have z4:((q:Int) != (s:Int))=true:=by simp;omega
   have z5:(q == s)=false:=by simp;omega
   repeat (go_big_quiet_step ((first|(go_at_call 104;first|with_reducible exact Calls.quiet_of_same (B0.out _ _ (below_drewN (Below.refl _ w) _))|with_reducible exact Calls.quiet_of_same (B1.out _ _ (below_drewN (Below.refl _ w) _))|with_reducible exact Calls.quiet_of_same (B2.out _ _ (below_drewN (Below.refl _ w) _))|with_reducible exact Calls.quiet_of_same (B3.out _ _ (below_drewN (Below.refl _ w) _)))|(go_at_call 107;with_reducible exact Calls.quiet_of_same (B4.out _ _ (below_drewN (Below.refl _ w) _))))))
   refine wpQuiet_nil ?_
   intro _ ⟨nq,hnq⟩
   subst hnq
   go_wp2
   go_meet
   exact⟨by (first|rw[HV.out]|rw[HE.out,HV.out]);first|rfl|(simp;done)|(simp;omega),nq,rfl⟩
  subst h1
  by_cases h1:r=k
  rotate_left
  ·have HV:Hid ((cE b && decide (0<g) && decide (g=g) && decide (q=q) && decide (r=k))=false):=by show _=_;rw[decide_eq_false h1];simp
   have z3:((r:Int) == (k:Int))=false:=by simp;omega
   have z4:((r:Int) != (k:Int))=true:=by simp;omega
   have z5:(r == k)=false:=by simp;omega
   repeat (go_big_quiet_step ((first|(go_at_call 104;first|with_reducible exact Calls.quiet_of_same (B0.out _ _ (below_drewN (Below.refl _ w) _))|with_reducible exact Calls.quiet_of_same (B1.out _ _ (below_drewN (Below.refl _ w) _))|with_reducible exact Calls.quiet_of_same (B2.out _ _ (below_drewN (Below.refl _ w) _))|with_reducible exact Calls.quiet_of_same (B3.out _ _ (below_drewN (Below.refl _ w) _)))|(go_at_call 107;with_reducible exact Calls.quiet_of_same (B4.out _ _ (below_drewN (Below.refl _ w) _))))))
   refine wpQuiet_nil ?_
   intro _ ⟨nq,hnq⟩
   subst hnq
   go_wp2
   go_meet
   exact⟨by (first|rw[HV.out]|rw[HE.out,HV.out]);first|rfl|(simp;done)|(simp;omega),nq,rfl⟩
  subst h1
  have HE:Hid ((cE b && decide (0<g) && decide (g=g) && decide (q=q) && decide (r=r))=cE b):=by show _=_;rw[decide_eq_true (show 0<g by omega)];simp
  by_cases h2:3<kd
  ·have HV:Hid (cE b=false):=(HF.out false).2 (by rw[decide_eq_false (show ¬kd<=3 by omega)];simp)
   have z6:(3:Int)<(kd:Int):=om
   repeat (go_big_quiet_step ((first|(go_at_call 104;first|with_reducible exact Calls.quiet_of_same (B0.out _ _ (below_drewN (Below.refl _ w) _))|with_reducible exact Calls.quiet_of_same (B1.out _ _ (below_drewN (Below.refl _ w) _))|with_reducible exact Calls.quiet_of_same (B2.out _ _ (below_drewN (Below.refl _ w) _))|with_reducible exact Calls.quiet_of_same (B3.out _ _ (below_drewN (Below.refl _ w) _)))|(go_at_call 107;with_reducible exact Calls.quiet_of_same (B4.out _ _ (below_drewN (Below.refl _ w) _))))))
   refine wpQuiet_nil ?_
   intro _ ⟨nq,hnq⟩
   subst hnq
   go_wp2
   go_meet
   exact⟨by (first|rw[HV.out]|rw[HE.out,HV.out]);first|rfl|(simp;done)|(simp;omega),nq,rfl⟩
  by_cases h3:112<m
  ·have HV:Hid (cE b=false):=(HF.out false).2 (by rw[decide_eq_false (show ¬m<=112 by omega)];simp)
   have z6:¬(3:Int)<(kd:Int):=om
   have z7:(112:Int)<(m:Int):=om
   repeat (go_big_quiet_step ((first|(go_at_call 104;first|with_reducible exact Calls.quiet_of_same (B0.out _ _ (below_drewN (Below.refl _ w) _))|with_reducible exact Calls.quiet_of_same (B1.out _ _ (below_drewN (Below.refl _ w) _))|with_reducible exact Calls.quiet_of_same (B2.out _ _ (below_drewN (Below.refl _ w) _))|with_reducible exact Calls.quiet_of_same (B3.out _ _ (below_drewN (Below.refl _ w) _)))|(go_at_call 107;with_reducible exact Calls.quiet_of_same (B4.out _ _ (below_drewN (Below.refl _ w) _))))))
   refine wpQuiet_nil ?_
   intro _ ⟨nq,hnq⟩
   subst hnq
   go_wp2
   go_meet
   exact⟨by (first|rw[HV.out]|rw[HE.out,HV.out]);first|rfl|(simp;done)|(simp;omega),nq,rfl⟩
  have z7:¬(112:Int)<(m:Int):=om
  rcases(show kd=0\/kd=1\/kd=2\/kd=3 by omega) with h4|h4|h4|h4
  ·replace c10:w.cell? ⟨f,o+10,none⟩=some (.int .u8 0):=by rw[c10,h4];rfl
   by_cases h5:m=112
   ·have HV:Hid (cE b=true):=(HF.out true).2 (by subst h4;simp;try omega)
    subst h5
    clear h4
    repeat (go_big_quiet_step ((first|(go_at_call 104;first|with_reducible exact Calls.quiet_of_same (B0.out _ _ (below_drewN (Below.refl _ w) _))|with_reducible exact Calls.quiet_of_same (B1.out _ _ (below_drewN (Below.refl _ w) _))|with_reducible exact Calls.quiet_of_same (B2.out _ _ (below_drewN (Below.refl _ w) _))|with_reducible exact Calls.quiet_of_same (B3.out _ _ (below_drewN (Below.refl _ w) _)))|(go_at_call 107;with_reducible exact Calls.quiet_of_same (B4.out _ _ (below_drewN (Below.refl _ w) _))))))
    refine wpQuiet_nil ?_
    intro _ ⟨nq,hnq⟩
    subst hnq
    go_wp2
    go_meet
    exact⟨by (first|rw[HV.out]|rw[HE.out,HV.out]);first|rfl|(simp;done)|(simp;omega),nq,rfl⟩
   ·have HV:Hid (cE b=false):=(HF.out false).2 (by subst h4;simp;try omega)
    have z8:((m:Int) == 112)=false:=by simp;omega
    have z9:((m:Int) != 112)=true:=by simp;omega
    have z10:(m == 112)=false:=by simp;omega
    clear h4
    repeat (go_big_quiet_step ((first|(go_at_call 104;first|with_reducible exact Calls.quiet_of_same (B0.out _ _ (below_drewN (Below.refl _ w) _))|with_reducible exact Calls.quiet_of_same (B1.out _ _ (below_drewN (Below.refl _ w) _))|with_reducible exact Calls.quiet_of_same (B2.out _ _ (below_drewN (Below.refl _ w) _))|with_reducible exact Calls.quiet_of_same (B3.out _ _ (below_drewN (Below.refl _ w) _)))|(go_at_call 107;with_reducible exact Calls.quiet_of_same (B4.out _ _ (below_drewN (Below.refl _ w) _))))))
    refine wpQuiet_nil ?_
    intro _ ⟨nq,hnq⟩
    subst hnq
    go_wp2
    go_meet
    exact⟨by (first|rw[HV.out]|rw[HE.out,HV.out]);first|rfl|(simp;done)|(simp;omega),nq,rfl⟩
  ·replace c10:w.cell? ⟨f,o+10,none⟩=some (.int .u8 1):=by rw[c10,h4];rfl
   by_cases h5:m=112
   ·have HV:Hid (cE b=true):=(HF.out true).2 (by subst h4;simp;try omega)
    subst h5
    clear h4
    repeat (go_big_quiet_step ((first|(go_at_call 104;first|with_reducible exact Calls.quiet_of_same (B0.out _ _ (below_drewN (Below.refl _ w) _))|with_reducible exact Calls.quiet_of_same (B1.out _ _ (below_drewN (Below.refl _ w) _))|with_reducible exact Calls.quiet_of_same (B2.out _ _ (below_drewN (Below.refl _ w) _))|with_reducible exact Calls.quiet_of_same (B3.out _ _ (below_drewN (Below.refl _ w) _)))|(go_at_call 107;with_reducible exact Calls.quiet_of_same (B4.out _ _ (below_drewN (Below.refl _ w) _))))))
    refine wpQuiet_nil ?_
    intro _ ⟨nq,hnq⟩
    subst hnq
    go_wp2
    go_meet
    exact⟨by (first|rw[HV.out]|rw[HE.out,HV.out]);first|rfl|(simp;done)|(simp;omega),nq,rfl⟩
   ·have HV:Hid (cE b=false):=(HF.out false).2 (by subst h4;simp;try omega)
    have z8:((m:Int) == 112)=false:=by simp;omega
    have z9:((m:Int) != 112)=true:=by simp;omega
    have z10:(m == 112)=false:=by simp;omega
    clear h4
    repeat (go_big_quiet_step ((first|(go_at_call 104;first|with_reducible exact Calls.quiet_of_same (B0.out _ _ (below_drewN (Below.refl _ w) _))|with_reducible exact Calls.quiet_of_same (B1.out _ _ (below_drewN (Below.refl _ w) _))|with_reducible exact Calls.quiet_of_same (B2.out _ _ (below_drewN (Below.refl _ w) _))|with_reducible exact Calls.quiet_of_same (B3.out _ _ (below_drewN (Below.refl _ w) _)))|(go_at_call 107;with_reducible exact Calls.quiet_of_same (B4.out _ _ (below_drewN (Below.refl _ w) _))))))
    refine wpQuiet_nil ?_
    intro _ ⟨nq,hnq⟩
    subst hnq
    go_wp2
    go_meet
    exact⟨by (first|rw[HV.out]|rw[HE.out,HV.out]);first|rfl|(simp;done)|(simp;omega),nq,rfl⟩
  ·replace c10:w.cell? ⟨f,o+10,none⟩=some (.int .u8 2):=by rw[c10,h4];rfl
   by_cases h5:m=0
   ·have HV:Hid (cE b=false):=(HF.out false).2 (by subst h4;simp;try omega)
    subst h5
    clear h4
    repeat (go_big_quiet_step ((first|(go_at_call 104;first|with_reducible exact Calls.quiet_of_same (B0.out _ _ (below_drewN (Below.refl _ w) _))|with_reducible exact Calls.quiet_of_same (B1.out _ _ (below_drewN (Below.refl _ w) _))|with_reducible exact Calls.quiet_of_same (B2.out _ _ (below_drewN (Below.refl _ w) _))|with_reducible exact Calls.quiet_of_same (B3.out _ _ (below_drewN (Below.refl _ w) _)))|(go_at_call 107;with_reducible exact Calls.quiet_of_same (B4.out _ _ (below_drewN (Below.refl _ w) _))))))
    refine wpQuiet_nil ?_
    intro _ ⟨nq,hnq⟩
    subst hnq
    go_wp2
    go_meet
    exact⟨by (first|rw[HV.out]|rw[HE.out,HV.out]);first|rfl|(simp;done)|(simp;omega),nq,rfl⟩
   ·have HV:Hid (cE b=true):=(HF.out true).2 (by subst h4;simp;try omega)
    have z8:((m:Int) == 0)=false:=by simp;omega
    have z9:((m:Int) != 0)=true:=by simp;omega
    have z10:(m == 0)=false:=by simp;omega
    clear h4
    repeat (go_big_quiet_step ((first|(go_at_call 104;first|with_reducible exact Calls.quiet_of_same (B0.out _ _ (below_drewN (Below.refl _ w) _))|with_reducible exact Calls.quiet_of_same (B1.out _ _ (below_drewN (Below.refl _ w) _))|with_reducible exact Calls.quiet_of_same (B2.out _ _ (below_drewN (Below.refl _ w) _))|with_reducible exact Calls.quiet_of_same (B3.out _ _ (below_drewN (Below.refl _ w) _)))|(go_at_call 107;with_reducible exact Calls.quiet_of_same (B4.out _ _ (below_drewN (Below.refl _ w) _))))))
    refine wpQuiet_nil ?_
    intro _ ⟨nq,hnq⟩
    subst hnq
    go_wp2
    go_meet
    exact⟨by (first|rw[HV.out]|rw[HE.out,HV.out]);first|rfl|(simp;done)|(simp;omega),nq,rfl⟩
  ·replace c10:w.cell? ⟨f,o+10,none⟩=some (.int .u8 3):=by rw[c10,h4];rfl
   have HV:Hid (cE b=true):=(HF.out true).2 (by subst h4;simp;try omega)
   clear h4
   repeat (go_big_quiet_step ((first|(go_at_call 104;first|with_reducible exact Calls.quiet_of_same (B0.out _ _ (below_drewN (Below.refl _ w) _))|with_reducible exact Calls.quiet_of_same (B1.out _ _ (below_drewN (Below.refl _ w) _))|with_reducible exact Calls.quiet_of_same (B2.out _ _ (below_drewN (Below.refl _ w) _))|with_reducible exact Calls.quiet_of_same (B3.out _ _ (below_drewN (Below.refl _ w) _)))|(go_at_call 107;with_reducible exact Calls.quiet_of_same (B4.out _ _ (below_drewN (Below.refl _ w) _))))))
   refine wpQuiet_nil ?_
   intro _ ⟨nq,hnq⟩
   subst hnq
   go_wp2
   go_meet
   exact⟨by (first|rw[HV.out]|rw[HE.out,HV.out]);first|rfl|(simp;done)|(simp;omega),nq,rfl⟩
 case rest =>
 obtain⟨rfl,z0,hz0⟩:=hcut
 obtain⟨w1,hw1⟩:=zg wc
 rw[<-hw1]at hz0 ⊢
 have hB:Below w.heap.size w w1:=by rw[hz0];exact below_drewN (Below.refl _ w) z0
 have HZ0:=aa hz0
 clear hz0
 have HS1:=aa (HS.out.below ai.keeps hB)
 clear hw1 B0 B1 B2 B3 B4 wq wk HF
 cases hv:(cE b && decide (0<g) && decide (g=t) && decide (q=s) && decide (r=k))
 ·have HV:Hid (cr b k=false):=(HG.out false).2 (by rw[hv];rfl)
  clear hv HG
  go_wp2
  go_ret
  exact⟨bK HV.out.symm,z0,HZ0.out⟩
 ·have hm112:m<=112:=by
   simp only[Bool.and_eq_true]at hv
   rcases Nat.lt_or_ge 112 m with h2|h2
   ·have h3:=hv.1.1.1.1
    rw[lA (by rw[<-HM.out];exact h2)]at h3
    cases h3
   ·exact h2
  have HV:Hid (cr b k=decide ((b.drop (12+m)).take (112-m)=List.replicate (112-m) 0)):=by
   show _=_
   refine(HG.out _).2 ?_
   rw[hv]
   simp
  have HX:Hid (∀j,j<=111-m->m<=111->∃x:UInt8,b[12+m+j]? = some x/\w1.cell? ⟨f,o+(12+m+j),none⟩=some (.int .u8 x.toNat)):=fun j hj hm=>by
   obtain⟨x,hx⟩:=av HBL.out (show 12+m+j<128 by omega)
   rcases HS1.out.bytes with h0|⟨b',o',e,hc⟩
   ·omega
   ·cases e
    exact⟨x,hx,hc _ x hx⟩
  clear hv HG
  go_wp2
  go_loop [6] (fun i=>∃j:Nat,j<=112-m/\i=.int .i64 ((12+m+j:Nat):Int)/\(b.drop (12+m)).take j=List.replicate j 0) (fun i=>124-(intOf i).toNat)
  case atStart=>exact⟨0,Nat.zero_le _,by simp,by simp⟩
  case round =>
   obtain⟨j,hj,rfl,hz⟩:=hrel
   have HZ:=aa hz
   clear hz
   by_cases hlt:j<112-m
   ·obtain⟨x,hx,hcell⟩:=HX.out j om om
    obtain⟨i,hi⟩:=zg (12+m+j)
    have hx2:(b.drop (12+m))[j]? = some x:=by rw[List.getElem?_drop];exact hx
    have hsn:=cp (b.drop (12+m)) j x hx2
    rw[<-hi]at hcell ⊢
    have HSN:=aa hsn
    have HX2:=aa hx2
    obtain⟨xx,hxx⟩:=zg x.toNat
    rw[<-hxx]at hcell
    have i1:i<124:=om
    have i2:(i:Int)<124:=om
    have HI:=aa hi
    have HXX:=aa hxx
    clear hx hx2 hsn hi hxx
    by_cases h0:xx=0
    ·have HN:Hid ((b.drop (12+m)).take (j+1)=List.replicate (j+1) 0):=by
      show _=_
      rw[HSN.out,HZ.out,show x=0 from UInt8.toNat_inj.1 (by rw[<-HXX.out,h0];rfl),List.replicate_succ']
     subst h0
     go_wp2
     go_round
     case rel=>exact⟨j+1,om,by rw[HI.out];go_num,HN.out⟩
     case measure=>simp[intOf];omega
    ·have HN:Hid (cr b k=false):=by
      show _=_
      rw[HV.out]
      refine decide_eq_false fun h => ?_
      have h1:((b.drop (12+m)).take (112-m))[j]? = some x:=by rw[List.getElem?_take,if_pos hlt];exact HX2.out
      rw[h,List.getElem?_replicate,if_pos hlt]at h1
      simp only[Option.some.injEq]at h1
      exact h0 (by rw[HXX.out,<-h1];rfl)
     have z1:((xx:Int) == 0)=false:=by simp;omega
     go_wp2
     go_ret
     exact⟨bK HN.out.symm,z0,HZ0.out⟩
   ·have hj2:j=112-m:=om
    have HN:Hid (cr b k=true):=by
     show _=_
     rw[HV.out,<-hj2,HZ.out]
     simp
    have e:((12+m+j:Nat):Int)=124:=om
    rw[e]
    clear hj2 e HX
    go_wp2
    go_ret
    exact⟨bK HN.out.symm,z0,HZ0.out⟩
end Go.Proofs.YtmflnpdmlfmcpaaGreatDoor
namespace Go.Proofs.YtmflnpdmlfmcpaaGreatDoor
open Go.RowKit
variable {Nz : Nat}
def C8 (B:Nat)(r:Option (List UInt8 × Nat))(at':Nat)(e:Ending)(w':World):Prop:=match r with
 | none=>e=.returned (.tuple #[.slice none 0 0,.int .i64 0])
 | some (b,nx)=>∃va m vc,e=.returned (.tuple #[.slice va m vc,.int .i64 ((nx-at':Nat):Int)])/\w'.ownsRow B 5 1 (.slice va m vc) m (af b)
theorem CV {B:Nat}{r:Option (List UInt8 × Nat)}{at':Nat}{w':World}(h:r=none):C8 B r at' (.returned (.tuple #[.slice none 0 0,.int .i64 0])) w':=by subst h;rfl
theorem Dj {B:Nat}{r:Option (List UInt8 × Nat)}{at' nx m vc:Nat}{b:List UInt8}{va:Option Addr}{z:Int}{w':World}(h:r=some (b,nx))(hz:z=((nx-at':Nat):Int))(hb:w'.ownsRow B 5 1 (.slice va m vc) m (af b)):C8 B r at' (.returned (.tuple #[.slice va m vc,.int .i64 z])) w':=by
 subst h;subst hz;exact⟨va,m,vc,rfl,hb⟩
theorem jy {w W:World}{base:Nat}{e:TypeId}{size n:Nat}{v:Value}{xs:List Value}(h:w.ownsRow base e size v n xs)(hB:Below w.heap.size w W):W.ownsRow base e size v n xs:=
 cZ h fun g hg=>hB.block g (h.lt g hg).2
theorem pf {w:World}{a:Option Addr}{n:Nat}{l:List (List UInt8)}(h:Sl 1 (aN Nz) w a n l)(hl:∀b ∈ l,b.length=128){i:Nat}{s:List UInt8}(hx:l[i]? = some s) :
  ∃b0 off f o c,a=some ⟨b0,off,none⟩/\w.cell? ⟨b0,off+i,none⟩=some (.slice (some ⟨f,o,none⟩) 128 c)/\128<=c/\Sl 1 ai w (some ⟨f,o,none⟩) 128 s:=by
 have hi:=(List.getElem?_eq_some_iff.1 hx).1
 have hs:=hl s (List.mem_of_getElem? hx)
 rcases h.secs with h0|⟨b0,off,rfl,hc⟩
 ·have:=h.len;omega
 obtain⟨xa,xn,xc,_,h2,h3,h4⟩:=hc i s hx
 have hn:xn=128:=by rw[<-hs,h3.len]
 subst hn
 rcases h3.bytes with h0|⟨f,o,rfl,_⟩
 ·omega
 ·exact⟨b0,off,f,o,xc,rfl,h4,h2,h3⟩
theorem nY {b:List UInt8}{k:Nat}(h:cr b k=true):an b<=112/\bq b<=3:=by
 have hf:cE b=true:=by
  cases hf:cE b
  ·rw[nX hf]at h;cases h
  ·rfl
 constructor
 ·rcases Nat.lt_or_ge 112 (an b) with h2|h2
  ·rw[lA h2]at hf;cases hf
  ·exact h2
 ·rcases Nat.lt_or_ge 3 (bq b) with h2|h2
  ·rw[nW h2]at hf;cases hf
  ·exact h2
theorem tt {b:List UInt8}(h:b.length=128):bH b<4294967296:=by
 have h1:=mb (b.take 4)
 rw[show (b.take 4).length=4 by simp;omega]at h1
 exact h1
theorem Dp (a:Option Addr)(n c at':Nat)(l:List (List UInt8))(w:World)(hn:n<=4096)(hat:at'<=n)(hl:∀b ∈ l,b.length=128)(h:Sl 1 (aN Nz) w a n l) :
  Calls Tryz.prog 103 #[.slice a n c,.int .i64 at'] w fun e w'=>C8 w.heap.size (el l at') at' e w'/\Below w.heap.size w w':=by
 have HL:=aa h.len
 have HB:=aa hl
 have HS:=aa h
 obtain⟨g,hg⟩:=zg (cw l at')
 obtain⟨r,hr⟩:=zg (el l at')
 have HR:Hid (du g (l.drop at') at' true []=r):=by show _=_;rw[hg,hr];rfl
 rw[<-hr]
 have GG:=aa hg
 obtain⟨i0,hi0,hz0,hz1,hz2⟩:=info_parts jv
 clear h hl hg hr
 go_enter Tryz.func103,Tryz.ntmps103
 go_wp2
 go_loopw [6,7] (fun s6 s7 wr=>∃(k:Nat) (va:Option Addr) (m vc:Nat) (acc:List UInt8),at'+k<=n/\s7=.int .i64 k/\s6=.slice va m vc/\m<=112*k/\wr.ownsRow w.heap.size 5 1 (.slice va m vc) m (af acc)/\Below w.heap.size w wr/\du g (l.drop (at'+k)) (at'+k) (decide (k=0)) acc=r) (fun _ s7 _=>n-(at'+(intOf s7).toNat))
 case atStart=>exact⟨0,some ⟨w.heap.size,0,none⟩,0,0,[],om,rfl,rfl,om,⟨rfl,.inr ⟨w.heap.size,0,#[],rfl,Nat.le_refl _,ak _ rfl,Nat.le_refl _,by unfold maxLen;omega,rfl,rfl⟩⟩,(Below.refl _ w).alloc (Nat.le_refl _) _,HR.out⟩
 case round =>
  obtain⟨k,va,m,vc,acc,hk,rfl,rfl,hm,hown,hB,hrec⟩:=hrel
  have HO:=aa hown
  have HRC:=aa hrec
  have hs1:=hB.size
  clear hown hrec
  obtain⟨ix,hix⟩:=zg (at'+k)
  have hixI:(at':Int)+(k:Int)=(ix:Int):=om
  by_cases hlt:ix<n
  ·obtain⟨s,hx⟩:=av HL.out hlt
   obtain⟨s0,hx0⟩:=av HL.out (show at'<n by omega)
   obtain⟨b0,off,f,o,xc,rfl,hcellw,hxc,hssw⟩:=pf HS.out HB.out hx
   have hcell:=ag hB hcellw
   have hss:=hssw.below ai.keeps hB
   obtain⟨c10w,c11w⟩:=lB hssw
   obtain⟨b1,off1,f0,o0,xc0,e,hcell0,hxc0,hss0⟩:=pf (HS.out.below aN.keeps hB) HB.out hx0
   cases e
   obtain⟨c10,c11⟩:=lB hss
   have hsl:s.length=128:=hss.len
   have hsl0:s0.length=128:=hss0.len
   have hg0:g=bH s0:=by rw[GG.out,cw,List.getD,hx0];rfl
   obtain⟨ok,hok⟩:=zg ((cr s ix && (decide (bq s%2=1) == decide (k=0)) && decide (bH s=g)))
   have H92:Hid (∀z,Calls Tryz.prog 130 #[.slice (some ⟨f,o,none⟩) 128 xc,.int .i64 ix] (wr.drewN z) fun e w'=>e=.returned (.bool (cr s ix))/\∃y,w'=(wr.drewN z).drewN y):=fun z=>DQ f o xc ix s _ hxc om (hss.below ai.keeps (below_drewN (Below.refl _ wr) z))
   have H85:Hid (∀(c':Nat) z,Calls Tryz.prog 104 #[.slice (some ⟨f,o,none⟩) 4 c'] (wr.drewN z) fun e w'=>e=.returned (.int .u64 (bH s))/\w'=wr.drewN z):=fun c' z =>
    (kD _ 4 c' (s.take 4) _ om (gQ (hss.below ai.keeps (below_drewN (Below.refl _ wr) z)) 0 4 om)).mono fun _ _ ⟨h1,h2⟩=>⟨h1,h2.symm⟩
   have H85':Hid (∀(c':Nat) z,Calls Tryz.prog 104 #[.slice (some ⟨f0,o0,none⟩) 4 c'] (wr.drewN z) fun e w'=>e=.returned (.int .u64 g)/\w'=wr.drewN z):=fun c' z=>by
    rw[hg0]
    exact(kD _ 4 c' (s0.take 4) _ om (gQ (hss0.below ai.keeps (below_drewN (Below.refl _ wr) z)) 0 4 om)).mono fun _ _ ⟨h1,h2⟩=>⟨h1,h2.symm⟩
   obtain⟨kd,hkd⟩:=zg (bq s)
   obtain⟨ln,hln⟩:=zg (an s)
   obtain⟨gs,hgs⟩:=zg (bH s)
   obtain⟨gd,hgd⟩:=zg (cr s ix)
   rw[<-hkd]at c10 c10w hok
   have C10:=aa c10w
   clear hcellw hssw c11w c10w
   rw[<-hln]at c11
   rw[<-hgs]at H85 hok
   rw[<-hgd]at H92 hok
   have hkd256:kd<256:=by rw[hkd];exact(s.getD 10 0).toNat_lt
   have hln256:ln<256:=by rw[hln];exact(s.getD 11 0).toNat_lt
   have k0:(0:Int)<=(ix:Int):=om
   have k1:(ix:Int)<(n:Int):=om
   have k2:(at':Int)<(n:Int):=om
   have k3:(0:Int)<=(at':Int):=om
   have wix:IntKind.i64.wrap ((at':Int)+(k:Int))=(ix:Int):=by rw[IntKind.wrap_i64];omega
   have OK:=aa hok
   have KD:=aa hkd
   have LN:=aa hln
   have GS:=aa hgs
   have GD:=aa hgd
   have HX:=aa hx
   have HIX:=aa hix
   have HSS:=aa hss
   have hg0k:k=0->gs=g:=fun h0=>by
    have h1:ix=at':=om
    rw[h1,hx0]at hx
    cases hx
    rw[hgs,hg0]
   have HG0:=aa hg0k
   clear hok hkd hln hgs hgd hx hx0 hg0 hix hss hss0 hsl hsl0 hg0k
   go_upto_region 6 with (fail)
   go_cut [55] (fun s55 wx=>s55=.bool (!ok)/\∃z,wx=wr.drewN z)
   case first =>
    refine wp_region_quiet_lit kr kr ?_
    cases gd
    ·
     repeat (go_big_quiet_step ((first|(go_at_call 130;with_reducible exact Calls.quiet_of (H92.out _))|(go_at_call 104;first|with_reducible exact Calls.quiet_of_same (H85.out _ _)|with_reducible exact Calls.quiet_of_same (H85'.out _ _)))))
     refine wpQuiet_nil ?_
     intro _ ⟨nq,hnq⟩
     subst hnq
     go_wp2
     go_meet
     exact⟨by rw[OK.out];simp<;>omega,nq,rfl⟩
    rcases(show kd%2=0\/kd%2=1 by omega) with hp|hp
    ·have p1:(kd:Int)%2=0:=om
     have p2:(kd:Int).tmod 2=0:=by rw[Int.tmod_eq_emod_of_nonneg om];omega
     have HP:=aa hp
     clear hp
     by_cases hk0:k=0
     ·have q1:((k:Int) == 0)=true:=by simp;omega
      have q2:decide ((0:Int)<(k:Int))=false:=by simp;omega
      have q3:(k == 0)=true:=by simp;omega
      have q4:decide (0<k)=false:=by simp;omega
      have HG1:=aa (HG0.out hk0)
      have HK:=aa hk0
      clear hk0
      repeat (go_big_quiet_step ((first|(go_at_call 130;with_reducible exact Calls.quiet_of (H92.out _))|(go_at_call 104;first|with_reducible exact Calls.quiet_of_same (H85.out _ _)|with_reducible exact Calls.quiet_of_same (H85'.out _ _)))))
      refine wpQuiet_nil ?_
      intro _ ⟨nq,hnq⟩
      subst hnq
      go_wp2
      go_meet
      exact⟨by rw[OK.out,HP.out,decide_eq_true HK.out];simp,nq,rfl⟩
     have q1:((k:Int) == 0)=false:=by simp;omega
     have q2:decide ((0:Int)<(k:Int))=true:=by simp;omega
     have q3:(k == 0)=false:=by simp;omega
     have q4:decide (0<k)=true:=by simp;omega
     have HK:=aa hk0
     clear hk0
     by_cases hgg:gs=g
     ·have r1:((gs:Int) == (g:Int))=true:=by simp;omega
      have r2:((gs:Int) != (g:Int))=false:=by simp;omega
      have r3:(gs == g)=true:=by simp;omega
      have HGG:=aa hgg
      clear hgg
      repeat (go_big_quiet_step ((first|(go_at_call 130;with_reducible exact Calls.quiet_of (H92.out _))|(go_at_call 104;first|with_reducible exact Calls.quiet_of_same (H85.out _ _)|with_reducible exact Calls.quiet_of_same (H85'.out _ _)))))
      refine wpQuiet_nil ?_
      intro _ ⟨nq,hnq⟩
      subst hnq
      go_wp2
      go_meet
      exact⟨by rw[OK.out,HP.out,HGG.out,decide_eq_false HK.out];simp,nq,rfl⟩
     ·have r1:((gs:Int) == (g:Int))=false:=by simp;omega
      have r2:((gs:Int) != (g:Int))=true:=by simp;omega
      have r3:(gs == g)=false:=by simp;omega
      have HGG:=aa hgg
      clear hgg
      repeat (go_big_quiet_step ((first|(go_at_call 130;with_reducible exact Calls.quiet_of (H92.out _))|(go_at_call 104;first|with_reducible exact Calls.quiet_of_same (H85.out _ _)|with_reducible exact Calls.quiet_of_same (H85'.out _ _)))))
      refine wpQuiet_nil ?_
      intro _ ⟨nq,hnq⟩
      subst hnq
      go_wp2
      go_meet
      exact⟨by rw[OK.out,decide_eq_false HGG.out];simp,nq,rfl⟩
    ·have p1:(kd:Int)%2=1:=om
     have p2:(kd:Int).tmod 2=1:=by rw[Int.tmod_eq_emod_of_nonneg om];omega
     have HP:=aa hp
     clear hp
     by_cases hk0:k=0
     ·have q1:((k:Int) == 0)=true:=by simp;omega
      have q2:decide ((0:Int)<(k:Int))=false:=by simp;omega
      have q3:(k == 0)=true:=by simp;omega
      have q4:decide (0<k)=false:=by simp;omega
      have HGG:=aa (HG0.out hk0)
      have HK:=aa hk0
      clear hk0
      repeat (go_big_quiet_step ((first|(go_at_call 130;with_reducible exact Calls.quiet_of (H92.out _))|(go_at_call 104;first|with_reducible exact Calls.quiet_of_same (H85.out _ _)|with_reducible exact Calls.quiet_of_same (H85'.out _ _)))))
      refine wpQuiet_nil ?_
      intro _ ⟨nq,hnq⟩
      subst hnq
      go_wp2
      go_meet
      exact⟨by rw[OK.out,HGG.out,HP.out,decide_eq_true HK.out];simp,nq,rfl⟩
     have q1:((k:Int) == 0)=false:=by simp;omega
     have q2:decide ((0:Int)<(k:Int))=true:=by simp;omega
     have q3:(k == 0)=false:=by simp;omega
     have q4:decide (0<k)=true:=by simp;omega
     have HK:=aa hk0
     clear hk0
     repeat (go_big_quiet_step ((first|(go_at_call 130;with_reducible exact Calls.quiet_of (H92.out _))|(go_at_call 104;first|with_reducible exact Calls.quiet_of_same (H85.out _ _)|with_reducible exact Calls.quiet_of_same (H85'.out _ _)))))
     refine wpQuiet_nil ?_
     intro _ ⟨nq,hnq⟩
     subst hnq
     go_wp2
     go_meet
     exact⟨by rw[OK.out,HP.out,decide_eq_false HK.out];simp,nq,rfl⟩
   case rest =>
   obtain⟨rfl,z0,hz0⟩:=hcut
   obtain⟨w1,hw1⟩:=zg wc
   rw[<-hw1]at hz0 ⊢
   have hB1:Below wr.heap.size wr w1:=by rw[hz0];exact below_drewN (Below.refl _ wr) z0
   have HO1:=aa (jy HO.out hB1)
   have hB2:Below w.heap.size w w1:=hB.trans (hB1.mono hs1)
   have c10:=ag hB1 c10
   have c11:=ag hB1 c11
   have HSS1:=aa (HSS.out.below ai.keeps hB1)
   have hs2:=hB2.size
   have OK2:Hid ((cr s ix && (decide (bq s%2=1) == decide (k=0)) && decide (bH s=g))=ok):=by show _=_;rw[<-KD.out,<-GS.out,<-GD.out,<-OK.out]
   clear hw1 hz0 H92 H85 H85' HO HSS hB1
   cases ok
   ·have HN:Hid (r=none):=by
     show _=_
     rw[<-HRC.out,<-HIX.out]
     exact pG HX.out _ _ _ OK2.out
    go_wp2
    go_ret2
    exact⟨CV HN.out,hB2⟩
   ·obtain⟨hln112,hkd3⟩:ln<=112/\kd<=3:=by
     have h1:=OK2.out
     simp only[Bool.and_eq_true]at h1
     rw[LN.out,KD.out]
     exact nY h1.1.1
    have HP:Hid (Sl 1 ai w1 (some ⟨f,o+12,none⟩) ln (bC s)):=by
     show Sl 1 ai w1 (some ⟨f,o+12,none⟩) ln (bC s)
     unfold bC
     rw[<-LN.out]
     exact gQ HSS1.out 12 ln om
    obtain⟨n1,n2,n3,n4⟩:=bV HP.out
    have N1:=aa n1
    have N2:=aa n2
    have N3:=aa n3
    have N4:=aa n4
    have wln:IntKind.i64.wrap (ln:Int)=(ln:Int):=by rw[IntKind.wrap_i64];omega
    have s1:(0:Int)<=12+(ln:Int):=om
    have s2:12+(ln:Int)<=(xc:Int):=om
    have s3:(12:Int)<=12+(ln:Int):=om
    have s4:¬xc=12:=om
    clear n1 n2 n3 n4 HP HSS1
    go_upto_region 9 with (at_builtin;refine aD rfl (.tmp 56) (.tmp 63) 40 rfl w.heap.size 5 i0 (.int .u8 0) 1 1 Tryz.underlying40 hi0 hz0 hz1 hz2 rfl (by decide) (.slice va m vc) m (af acc) rfl HO1.out (some ⟨f,o+12,none⟩) ln (xc-12) (af (bC s)) ?px N1.out N2.out N3.out N4.out ?p0 ?p1 ?p2 ?_;rotate_right;intro va2 vc2 w2 hown hgrow)
    case px=>simp[Act.eval]
    case p0=>unfold maxLen;omega
    case p1=>omega
    case p2=>omega
    have hB3:Below w.heap.size w w2:=hB2.grown hgrow om (fun q hq=>(HO1.out.lt q hq).1)
    rw[<-nV]at hown
    have HO2:=aa hown
    have c10:=ag hB3 C10.out
    clear hown hgrow HO1 hB2 hs2 N1 N2 N3 N4 c11
    by_cases h2:2<=kd
    ·have HN:Hid (r=some (acc++bC s,ix+1)):=by
      show _=_
      rw[<-HRC.out,<-HIX.out]
      exact nQ HX.out _ _ _ OK2.out (by rw[<-KD.out];exact h2)
     go_wp2
     go_ret2
     exact⟨Dj HN.out (by have:=HIX.out;omega) HO2.out,hB3⟩
    ·have HN:Hid (du g (l.drop (at'+(k+1))) (at'+(k+1)) (decide (k+1=0)) (acc++bC s)=r):=by
      show _=_
      rw[<-HRC.out,<-HIX.out,kE HX.out _ _ _ OK2.out (by rw[<-KD.out];omega)]
      rw[show at'+(k+1)=ix+1 by rw[HIX.out];omega]
      simp
     go_wp2
     go_roundw
     case rel=>exact⟨k+1,va2,m+ln,vc2,acc++bC s,om,by go_num,rfl,om,HO2.out,hB3,HN.out⟩
     case measure=>simp[intOf];omega
  ·have HN:Hid (r=none):=by
    show _=_
    rw[<-HRC.out,<-hix]
    exact lr (by have:=HL.out;omega) _ _ _
   clear hix
   go_wp2
   go_ret2
   exact⟨CV HN.out,hB⟩
end Go.Proofs.YtmflnpdmlfmcpaaGreatDoor
namespace Go.Proofs.YtmflnpdmlfmcpaaGreatDoor
open Go.RowKit
variable {Nz : Nat}
theorem dN {w:World}{B base:Nat}{e:TypeId}{size n:Nat}{v:Value}{xs:List Value}(h:w.ownsRow base e size v n xs)(hB:B<=base):w.ownsRow B e size v n xs:=by
 obtain⟨h1,h2⟩:=h
 refine⟨h1,?_⟩
 rcases h2 with h2|⟨g,cap,cur,rfl,h3,h4⟩
 ·exact .inl h2
 ·exact .inr ⟨g,cap,cur,rfl,om,h4⟩
def cF (w:World)(B:Nat)(vs:List Value)(rs:List (List UInt8)):Prop:=vs.length=rs.length/\∀(i:Nat) b,rs[i]? = some b->∃va m vc,vs[i]? = some (.slice va m vc)/\w.ownsRow B 5 1 (.slice va m vc) m (af b)
theorem cF.below {w w':World}{B:Nat}{vs:List Value}{rs:List (List UInt8)}(h:cF w B vs rs)(hB:Below w.heap.size w w'):cF w' B vs rs:=
 ⟨h.1,fun i b hb=>by obtain⟨va,m,vc,h1,h2⟩:=h.2 i b hb;exact⟨va,m,vc,h1,jy h2 hB⟩⟩
theorem cF.grown {w w':World}{B B2 n:Nat}{e:TypeId}{v:Value}{xs vs:List Value}{rs:List (List UInt8)}(h:cF w B vs rs)(ho:w.ownsRow B2 e 1 v n xs)(he:5≠e)(hg:w.grownBy w' v.ownBlock):cF w' B vs rs:=
 ⟨h.1,fun i b hb=>by obtain⟨va,m,vc,h1,h2⟩:=h.2 i b hb;exact⟨va,m,vc,h1,h2.kept hg (vM h2 ho he)⟩⟩
theorem cF.snoc {w:World}{B:Nat}{vs:List Value}{rs:List (List UInt8)}{va:Option Addr}{m vc:Nat}{b:List UInt8}(h:cF w B vs rs)(hb:w.ownsRow B 5 1 (.slice va m vc) m (af b)):cF w B (vs++[.slice va m vc]) (rs++[b]):=by
 refine⟨by simp[h.1],fun i x hx => ?_⟩
 rcases Nat.lt_or_ge i rs.length with h1|h1
 ·rw[List.getElem?_append_left h1]at hx
  obtain⟨va',m',vc',h2,h3⟩:=h.2 i x hx
  exact⟨va',m',vc',by rw[List.getElem?_append_left (by rw[h.1];exact h1)];exact h2,h3⟩
 ·rw[List.getElem?_append_right h1]at hx
  have h2:i-rs.length=0:=by
   rcases Nat.eq_zero_or_pos (i-rs.length) with h3|h3
   ·exact h3
   ·rw[List.getElem?_eq_none (by simp;omega)]at hx;cases hx
  rw[h2]at hx
  simp only[List.getElem?_cons_zero,Option.some.injEq]at hx
  subst hx
  exact⟨va,m,vc,by rw[List.getElem?_append_right (by rw[h.1];exact h1),h.1,h2];rfl,hb⟩
def C0 (B:Nat)(rs:List (List UInt8))(e:Ending)(w':World):Prop:=∃a n c vs,e=.returned (.slice a n c)/\n<=4096/\w'.ownsRow B 40 1 (.slice a n c) n vs/\cF w' B vs rs
theorem Da {w:World}{B n c:Nat}{a:Option Addr}{vs:List Value}{rs:List (List UInt8)}(ho:w.ownsRow B 40 1 (.slice a n c) n vs)(h:cF w B vs rs)(hn:n<=4096):C0 B rs (.returned (.slice a n c)) w:=⟨a,n,c,vs,rfl,hn,ho,h⟩
theorem yk {w:World}{B n c:Nat}{a:Option Addr}{vs:List Value}{rs:List (List UInt8)}(ho:w.ownsRow B 40 1 (.slice a n c) n vs)(h:cF w B vs rs):n<=c/\Sl 1 (aN Nz) w a n rs/\bO Nz w a n:=by
 have hl:rs.length=n:=by have:=ho.1;have:=h.1;omega
 obtain⟨_,h2,h3⟩:=d8 (R:=aN Nz) ho rs hl (fun i x hx=>by
  obtain⟨va,m,vc,h4,h5⟩:=h.2 i x hx
  exact⟨_,h4,i4 h5⟩)
 exact⟨h2,h3,bO.own ho (.inr (.inl rfl))⟩
theorem Ap {w W:World}{B:Nat}{e:TypeId}{size n:Nat}{v:Value}{xs:List Value}(h:w.ownsRow B e size v n xs)(hW:∀g,B<=g->W.heap[g]? = w.heap[g]?):W.ownsRow B e size v n xs:=
 cZ h fun g hg=>hW g (h.lt g hg).1
theorem cF.far {w W:World}{B:Nat}{vs:List Value}{rs:List (List UInt8)}(h:cF w B vs rs)(hW:∀g,B<=g->W.heap[g]? = w.heap[g]?):cF W B vs rs:=
 ⟨h.1,fun i b hb=>by obtain⟨va,m,vc,h1,h2⟩:=h.2 i b hb;exact⟨va,m,vc,h1,Ap h2 hW⟩⟩
theorem gh {l:List (List UInt8)}{f at' last:Nat}(h:el l at'=none):cO l f at' last=[]:=by
 cases f with
 | zero=>rfl
 | succ f=>rw[cO,h]
theorem kK {l:List (List UInt8)}{f at' last nx:Nat}{b:List UInt8}(h:el l at'=some (b,nx))(hl:cw l at'<last):cO l f at' last=[]:=by
 cases f with
 | zero=>rfl
 | succ f=>rw[cO,h];simp[hl]
theorem jX {l:List (List UInt8)}{f at' last nx:Nat}{b:List UInt8}(h:el l at'=some (b,nx))(hl:¬cw l at'<last):cO l (f+1) at' last=b::cO l f nx (cw l at'):=by
 rw[cO,h];simp[hl]
theorem t9 {l:List (List UInt8)}{M:Nat}(hM:∀at' b nx,el l at'=some (b,nx)->b.length<=M)(f at' last:Nat):∀b ∈ cO l f at' last,b.length<=M:=by
 induction f generalizing at' last with
 | zero=>intro b hb;cases hb
 | succ f ih =>
  intro b hb
  cases hr:el l at' with
  | none=>rw[gh hr]at hb;cases hb
  | some p =>
   obtain⟨b',nx⟩:=p
   by_cases hl:cw l at'<last
   ·rw[kK hr hl]at hb;cases hb
   ·rw[jX hr hl]at hb
    rcases List.mem_cons.1 hb with rfl|hb
    ·exact hM _ _ _ hr
    ·exact ih _ _ b hb
theorem vT (l:List (List UInt8)):∀b ∈ bN l,b.length<=255*l.length:=t9 (fun _ _ _ h=>(fu h).2.2) _ _ _
theorem CW (a:Option Addr)(n c:Nat)(l:List (List UInt8))(w:World)(hn:n<=4096)(hl:∀b ∈ l,b.length=128)(h:Sl 1 (aN Nz) w a n l) :
  Calls Tryz.prog 63 #[.slice a n c] w fun e w'=>C0 w.heap.size (bN l) e w'/\Below w.heap.size w w':=by
 have HL:=aa h.len
 have HB:=aa hl
 have HS:=aa h
 obtain⟨R,hR⟩:=zg (bN l)
 have HR:Hid ([]++cO l (l.length+1) 0 0=R):=by show _=_;rw[hR];rfl
 rw[<-hR]
 obtain⟨i0,hi0,hz0,hz1,hz2⟩:=info_parts nN
 clear h hl hR
 go_enter Tryz.func63,Tryz.ntmps63
 go_wp2_with fail
 go_loopw [3,4,5] (fun s3 s4 s5 wr=>∃(at' last f m:Nat) (va:Option Addr) (vc:Nat) (vs:List Value) (rs:List (List UInt8)),at'<=n/\m<=at'/\n+1<=f+at'/\s3=.slice va m vc/\s4=.int .i64 at'/\s5=.int .u64 last/\wr.ownsRow w.heap.size 40 1 (.slice va m vc) m vs/\cF wr w.heap.size vs rs/\Below w.heap.size w wr/\rs++cO l f at' last=R) (fun _ s4 _ _=>n-(intOf s4).toNat)
 case atStart=>exact⟨0,0,l.length+1,0,some ⟨w.heap.size,0,none⟩,0,[],[],om,om,by have:=HL.out;omega,rfl,rfl,rfl,⟨rfl,.inr ⟨w.heap.size,0,#[],rfl,Nat.le_refl _,ak _ rfl,Nat.le_refl _,by unfold maxLen;omega,rfl,rfl⟩⟩,⟨rfl,fun i b hb=>by simp at hb⟩,(Below.refl _ w).alloc (Nat.le_refl _) _,HR.out⟩
 case round =>
  obtain⟨at',last,f,m,va,vc,vs,rs,h1,h2,h3,rfl,rfl,rfl,hown,hrs,hB,hrec⟩:=hrel
  have HO:=aa hown
  have HRS:=aa hrs
  have HRC:=aa hrec
  have hs1:=hB.size
  clear hown hrs hrec
  go_wp2_with fail
  refine(Dp _ n c at' l wr hn h1 HB.out (HS.out.below aN.keeps hB)).mono ?_
  rintro e w1 ⟨hgave,hB1⟩
  have hB2:Below w.heap.size w w1:=hB.trans (hB1.mono hs1)
  have HO1:=aa (jy HO.out hB1)
  have HRS1:=aa (HRS.out.below hB1)
  have hs2:=hB2.size
  cases hr:el l at' with
  | none =>
   rw[hr]at hgave
   obtain rfl:=hgave
   have HN:Hid (rs=R):=by
    show _=_
    rw[<-HRC.out,gh hr,List.append_nil]
   clear hr
   go_wp2_with fail
   go_ret
   exact⟨by rw[<-HN.out];exact Da HO1.out HRS1.out om,hB2⟩
  | some p =>
   obtain⟨b,nx⟩:=p
   rw[hr]at hgave
   obtain⟨ra,rm,rc,rfl,hro⟩:=hgave
   obtain⟨x1,x2,_⟩:=fu hr
   rw[HL.out]at x2
   obtain⟨s0,hx0⟩:=av HL.out (show at'<n by omega)
   obtain⟨b0,off,f0,o0,xc0,rfl,hcell0,hxc0,hss0⟩:=pf (HS.out.below aN.keeps hB2) HB.out hx0
   obtain⟨zz,hzz⟩:=zg (nx-at')
   rw[<-hzz]
   have hz0':0<zz:=om
   have z1:((zz:Int) == 0)=false:=by simp;omega
   have z2:(zz == 0)=false:=by simp;omega
   have k2:(at':Int)<(n:Int):=om
   have k3:(0:Int)<=(at':Int):=om
   obtain⟨g,hg⟩:=zg (cw l at')
   have hg0:g=bH s0:=by rw[hg,cw,List.getD,hx0];rfl
   have hsl0:s0.length=128:=hss0.len
   have hgl:g<4294967296:=by rw[hg0];exact tt hsl0
   have H85:Hid (∀c':Nat,Calls Tryz.prog 104 #[.slice (some ⟨f0,o0,none⟩) 4 c'] w1 fun e w'=>e=.returned (.int .u64 g)/\w1=w'):=fun c'=>by
    rw[hg0]
    exact kD _ 4 c' (s0.take 4) _ om (gQ hss0 0 4 om)
   have HRO:=aa hro
   have HZZ:=aa hzz
   have HRM:=aa hr
   have GG:=aa hg
   clear hro hzz hr hg hg0 hx0 hss0 hsl0
   by_cases hlast:g<last
   ·have HN:Hid (rs=R):=by
     show _=_
     rw[<-HRC.out,kK HRM.out (by rw[<-GG.out];exact hlast),List.append_nil]
    go_wp2_with (go_at_call 104;refine(H85.out _).mono ?_;rintro e w' ⟨rfl,rfl⟩)
    go_ret
    exact⟨by rw[<-HN.out];exact Da HO1.out HRS1.out om,hB2⟩
   ·obtain⟨f',hf'⟩:∃f',f=f'+1:=⟨f-1,om⟩
    have HN:Hid ((rs++[b])++cO l f' nx g=R):=by
     show _=_
     rw[<-HRC.out,hf',jX HRM.out (by rw[<-GG.out];exact hlast),<-GG.out]
     simp
    have hff:n+1<=f'+nx:=om
    clear hf'
    go_upto_region 9 with (first
     | (go_at_call 104;refine(H85.out _).mono ?_;rintro e w' ⟨rfl,rfl⟩)
     | (at_builtin;refine aD rfl (.tmp 34) (.tmp 36) 22 rfl w.heap.size 40 i0 (.slice none 0 0) 1 24 Tryz.underlying22 hi0 hz0 hz1 hz2 rfl (by decide) (.slice va m vc) m vs rfl (HO1.out.alloc _) (some ⟨w1.heap.size,0,none⟩) 1 1 [.slice ra rm rc] rfl rfl ?p0 ?p1 ?p2 ?p3 ?p4 ?p5 ?_;rotate_right;intro va2 vc2 w2 hown hgrow))
    case p0=>rintro⟨⟩
    case p1 =>
     rintro ad ⟨⟩ j u hu
     rw[Addr.add_lit,Nat.zero_add,dz _ _ rfl]
     simpa using hu
    case p2=>simp[Value.oneCell']
    case p3=>unfold maxLen;omega
    case p4=>omega
    case p5=>simp;omega
    have hA:Below w1.heap.size w1 (w1.alloc (.cells #[.slice ra rm rc] 40)):=(Below.refl _ w1).alloc (Nat.le_refl _) _
    have hB3:Below w.heap.size w w2:=(hB2.trans (hA.mono hs2)).grown hgrow (by simp;omega) (fun q hq=>(HO1.out.lt q hq).1)
    have hrs2:cF w2 w.heap.size (vs++[.slice ra rm rc]) (rs++[b]):=by
     have h5:=(HRS1.out.below hA).snoc (dN (jy HRO.out hA) hs1)
     exact h5.grown (HO1.out.alloc _) (by decide) hgrow
    have HO2:=aa hown
    have HRS2:=aa hrs2
    have hnx:((at':Int)+(zz:Int))=(nx:Int):=by have:=HZZ.out;omega
    clear hown hgrow hrs2 HO1 HRS1
    go_wp2
    go_roundw
    case rel=>exact⟨nx,g,f',m+1,va2,vc2,vs++[.slice ra rm rc],rs++[b],om,om,hff,rfl,rfl,rfl,HO2.out,HRS2.out,hB3,HN.out⟩
    case measure=>simp[intOf];omega
end Go.Proofs.YtmflnpdmlfmcpaaGreatDoor
namespace Go.Proofs.YtmflnpdmlfmcpaaGreatDoor
open Go.RowKit Go.Shelf
variable {Nz : Nat}
def ym (x:Nat × Option Addr × Nat × Nat):Array Value:=#[.int .i64 (x.1:Nat),.slice x.2.1 x.2.2.1 x.2.2.2]
def Cu (B:Nat)(W:World)(x:Nat × Option Addr × Nat × Nat)(y:List UInt8):Prop:=W.ownsRow B 5 1 (.slice x.2.1 x.2.2.1 x.2.2.2) x.2.2.1 (af y)
def km (B X:Nat)(W W':World):Prop:=Below B W W'/\∀v,W.cell? ⟨X,0,none⟩=some v->W'.cell? ⟨X,0,none⟩=some v
theorem sD {l:List (List UInt8)}{f at' last:Nat}(hl:cw l at'<last):cO l f at' last=[]:=by
 cases hr:el l at' with
 | none=>exact gh hr
 | some p=>obtain⟨b,nx⟩:=p;exact kK hr hl
theorem Aq {kd:Nat}(h:kd<=3):bits .and .u8 (kd:Int) 1=((kd%2:Nat):Int):=by
 rcases(show kd=0\/kd=1\/kd=2\/kd=3 by omega) with rfl|rfl|rfl|rfl<;>decide
theorem Ar {kd:Nat}(h:kd<=3):bits .and .u8 (kd:Int) 2=if 2<=kd then 2 else 0:=by
 rcases(show kd=0\/kd=1\/kd=2\/kd=3 by omega) with rfl|rfl|rfl|rfl<;>decide
theorem sE (n':Nat)(w0 wA:World)(X:Nat)(a:Option Addr)(n c:Nat)(l:List (List UInt8))(hA:Below w0.heap.size w0 wA)(hX:wA.cell? ⟨X,0,none⟩=some (.slice a n c))(hn:n<=4096)(hl:∀b ∈ l,b.length=128)(h:Sl 1 (aN Nz) w0 a n l) :
  qU Fence.wide n' Tryz.prog 97 #[.pointer (some ⟨X,0,none⟩)] ym (Cu w0.heap.size) (km w0.heap.size X) (bN l) wA:=by
 intro lp J W hW hG hY h0
 refine callsIn_wide.2 ?_
 have HL:=aa h.len
 have HB:=aa hl
 have HS:=aa h
 have HX:=aa (ag hW hX)
 have hW:=hA.trans (hW.mono hA.size)
 obtain⟨R,hR⟩:=zg (bN l)
 have HR:Hid ([]++cO l (l.length+1) 0 0=R):=by show _=_;rw[hR];rfl
 have HY:=aa hY
 have HG:=aa hG
 rw[<-hR]at HY ⊢
 obtain⟨i0,hi0,hz0,hz1,hz2⟩:=info_parts jv
 clear h hl hR hY hG hX
 show Calls Tryz.prog 97 #[.func (.yield lp) #[] #[],.pointer (some ⟨X,0,none⟩)] W fun e W'=>(∃v,e=.returned v)/\J R W'
 go_enter Tryz.func97,Tryz.ntmps97
 go_wp2
 go_step3
 go_wp2
 go_step3
 go_wp2
 go_loopg [3,4] (n+1) (fun f s3 s4 wr=>∃(at' last:Nat) (pre:List (List UInt8)),at'<=n/\n+1<=f+at'/\s3=.int .i64 at'/\s4=.int .u64 last/\J pre wr/\Below w0.heap.size w0 wr/\wr.cell? ⟨X,0,none⟩=some (.slice a n c)/\Hid (pre++cO l f at' last=R))
 case atStart=>exact⟨0,0,[],om,om,rfl,rfl,h0,hW,HX.out,by have:=HR.out;rw[HL.out]at this;exact this⟩
 case round =>
  obtain⟨at',last,pre,h1,h2,rfl,rfl,hJ,hB,hcX,HRC⟩:=hrel
  cases gk with
  | zero=>omega
  | succ f =>
  have HJ:=aa hJ
  obtain⟨g,hg⟩:=zg (cw l at')
  obtain⟨r,hr⟩:=zg (el l at')
  have HR0:Hid (du g (l.drop at') at' true []=r):=by show _=_;rw[hg,hr];rfl
  have GG:=aa hg
  have RR:=aa hr
  have hs0:=hB.size
  have HX:=aa hcX
  clear hJ hg hr hcX
  go_wp2
  obtain⟨wo,rfl⟩:∃wo:World,wo=wr:=⟨_,rfl⟩
  go_loopg [3,4,5,6] (n-at') (fun g2 s3 s4 s5 s6 wr=>∃(k:Nat) (va:Option Addr) (m vc:Nat) (acc:List UInt8),at'+k+g2=n/\s3=.int .i64 at'/\s4=.int .u64 last/\s6=.int .i64 ((at'+k:Nat):Int)/\s5=.slice va m vc/\m<=112*k/\wr.ownsRow wo.heap.size 5 1 (.slice va m vc) m (af acc)/\Below wo.heap.size wo wr/\Hid (du g (l.drop (at'+k)) (at'+k) (decide (k=0)) acc=r))
  case atStart=>exact⟨0,none,0,0,[],om,rfl,rfl,by simp,rfl,om,World.ownsRow_nil _ _ _ _,Below.refl _ _,HR0⟩
  case round =>
   obtain⟨k,va,m,vc,acc,hk,rfl,rfl,rfl,rfl,hm,hown,hB1,HRG⟩:=hrel
   have HO:=aa hown
   have hB2:Below w0.heap.size w0 wr:=hB.trans (hB1.mono hs0)
   have hs1:=hB2.size
   have hsw:=hB1.size
   have cX:=ag hB1 HX.out
   obtain⟨ix,hix⟩:=zg (at'+k)
   rw[<-hix]
   clear hown
   cases gk with
   | zero =>
    have HN:Hid (pre=R):=by
     show _=_
     have h3:r=none:=by rw[<-HRG.out];exact lr (by have:=HL.out;omega) _ _ _
     rw[<-HRC.out,gh (by rw[<-RR.out];exact h3),List.append_nil]
    have hin:ix=n:=om
    subst hin
    clear hix hk HRG HRC RR HR0 HY HB HS HX
    go_wp2
    try rw[Exit.noGoto_ret]
    refine bodyPost_ret (results_none rfl _ _ _) rfl ?_
    exact⟨⟨_,rfl⟩,by rw[<-HN.out];exact HG.out _ _ _ HJ.out hB1⟩
   | succ g2 =>
    have hlt:ix<n:=om
    obtain⟨s,hx⟩:=av HL.out hlt
    obtain⟨s0,hx0⟩:=av HL.out (show at'<n by omega)
    obtain⟨b0,off,f',o,xc,rfl,hcellw,hxc,hssw⟩:=pf HS.out HB.out hx
    obtain⟨b1,off1,f0,o0,xc0,e,hcell0w,hxc0,hss0w⟩:=pf HS.out HB.out hx0
    cases e
    have hcell:=ag hB2 hcellw
    have hcell0:=ag hB2 hcell0w
    have hss:=hssw.below ai.keeps hB2
    have hss0:=hss0w.below ai.keeps hB2
    obtain⟨c10w,c11w⟩:=lB hssw
    obtain⟨c10,c11⟩:=lB hss
    have hsl:s.length=128:=hss.len
    have hsl0:s0.length=128:=hss0.len
    have hg0:g=bH s0:=by rw[GG.out,cw,List.getD,hx0];rfl
    obtain⟨ok,hok⟩:=zg ((cr s ix && (decide (bq s%2=1) == decide (k=0)) && decide (bH s=g)))
    have H83:Hid (∀V,Below wr.heap.size wr V->Calls Tryz.prog 98 #[.slice (some ⟨f',o,none⟩) 128 xc,.int .i64 ix] V fun e w'=>e=.returned (.bool (cr s ix))/\Below V.heap.size V w'):=fun V hV=>yj f' o xc ix s V hxc om (hss.below ai.keeps hV)
    have H71:Hid (∀(c':Nat) V,Below wr.heap.size wr V->Calls Tryz.prog 46 #[.slice (some ⟨f',o,none⟩) 4 c'] V fun e w'=>e=.returned (.int .u64 (bH s))/\V=w'):=fun c' V hV =>
     iS _ 4 c' (s.take 4) V om (gQ (hss.below ai.keeps hV) 0 4 om)
    have H71':Hid (∀(c':Nat) V,Below wr.heap.size wr V->Calls Tryz.prog 46 #[.slice (some ⟨f0,o0,none⟩) 4 c'] V fun e w'=>e=.returned (.int .u64 g)/\V=w'):=fun c' V hV=>by
     rw[hg0]
     exact iS _ 4 c' (s0.take 4) V om (gQ (hss0.below ai.keeps hV) 0 4 om)
    have HW71:Hid (∀(c':Nat) V,Below w0.heap.size w0 V->Calls Tryz.prog 46 #[.slice (some ⟨f',o,none⟩) 4 c'] V fun e w'=>e=.returned (.int .u64 (bH s))/\V=w'):=fun c' V hV =>
     iS _ 4 c' (s.take 4) V om (gQ (hssw.below ai.keeps hV) 0 4 om)
    obtain⟨kd,hkd⟩:=zg (bq s)
    obtain⟨ln,hln⟩:=zg (an s)
    obtain⟨gs,hgs⟩:=zg (bH s)
    obtain⟨gd,hgd⟩:=zg (cr s ix)
    rw[<-hkd]at c10 c10w hok
    rw[<-hln]at c11
    rw[<-hgs]at H71 HW71 hok
    rw[<-hgd]at H83 hok
    have hkd256:kd<256:=by rw[hkd];exact(s.getD 10 0).toNat_lt
    have hln256:ln<256:=by rw[hln];exact(s.getD 11 0).toNat_lt
    have k0:(0:Int)<=(ix:Int):=om
    have k1:(ix:Int)<(n:Int):=om
    have k2:(at':Int)<(n:Int):=om
    have k3:(0:Int)<=(at':Int):=om
    obtain⟨cont,hcont⟩:=zg ((ok && !decide (gs<last)))
    have OK:=aa hok
    have CC:=aa hcont
    have KD:=aa hkd
    have LN:=aa hln
    have GS:=aa hgs
    have GD:=aa hgd
    have HXX:=aa hx
    have HIX:=aa hix
    have HSSW:=aa hssw
    have C10:=aa c10w
    have hkk:=hk
    have HKK:=aa hk
    clear hk
    have hg0k:k=0->gs=g:=fun h0=>by
     have h1:ix=at':=om
     rw[h1,hx0]at hx
     cases hx
     rw[hgs,hg0]
    have HG0:=aa hg0k
    have hd:Below wr.heap.size wr wr.drew:=(Below.refl _ wr).drew
    clear hok hcont hkd hln hgs hgd hx hx0 hg0 hss hss0 hsl hsl0 hg0k hssw hss0w hcellw hcell0w c10w c11w hix hkk
    go_upto_region 6 with (fail)
    go_cut [52] (fun s52 wx=>s52=.bool (!cont)/\Below wr.heap.size wr wx)
    case first =>
     have z10:∀z:aR wr,z.wd.cell? ⟨f',o+10,none⟩=some (.int .u8 kd):=fun z=>ag z.below c10
     have zX:∀z:aR wr,z.wd.cell? ⟨X,0,none⟩=some (.slice (some ⟨b0,off,none⟩) n c):=fun z=>ag z.below cX
     have z0c:∀z:aR wr,z.wd.cell? ⟨b0,off+at',none⟩=some (.slice (some ⟨f0,o0,none⟩) 128 xc0):=fun z=>ag z.below hcell0
     refine eu kr kr ?_
     cases gd
     ·
      repeat (go_big_quiet_step ((first|(go_at_call 98;with_reducible exact dC (H83.out _ (aR.below _)))|(go_at_call 46;first|with_reducible exact ca (H71.out _ _ (aR.below _))|with_reducible exact ca (H71'.out _ _ (aR.below _))))))
      refine wpQuiet_nil ?_
      intro _ ⟨nq,hnq⟩
      subst hnq
      go_wp2
      go_meet
      exact⟨by rw[CC.out,OK.out];simp,nq.below⟩
     have hkd3:kd<=3:=by rw[KD.out];exact(nY GD.out.symm).2
     have a1:=Aq hkd3
     rcases(show kd%2=0\/kd%2=1 by omega) with hp|hp
     ·rw[hp]at a1
      replace a1:bits .and .u8 (kd:Int) 1=0:=a1
      have HP:=aa hp
      clear hp
      by_cases hk0:k=0
      ·have q1:((ix:Int) == (at':Int))=true:=by have:=HIX.out;simp;omega
       have q2:(ix == at')=true:=by have:=HIX.out;simp;omega
       have HG1:=aa (HG0.out hk0)
       have HK:=aa hk0
       clear hk0
       repeat (go_big_quiet_step ((first|(go_at_call 98;with_reducible exact dC (H83.out _ (aR.below _)))|(go_at_call 46;first|with_reducible exact ca (H71.out _ _ (aR.below _))|with_reducible exact ca (H71'.out _ _ (aR.below _))))))
       refine wpQuiet_nil ?_
       intro _ ⟨nq,hnq⟩
       subst hnq
       go_wp2
       go_meet
       exact⟨by rw[CC.out,OK.out,HP.out,decide_eq_true HK.out];simp,nq.below⟩
      have q1:((ix:Int) == (at':Int))=false:=by have:=HIX.out;simp;omega
      have q2:(ix == at')=false:=by have:=HIX.out;simp;omega
      have HK:=aa hk0
      clear hk0
      by_cases hgg:gs=g
      ·have r1:((gs:Int) == (g:Int))=true:=by simp;omega
       have r2:((gs:Int) != (g:Int))=false:=by simp;omega
       have r3:(gs == g)=true:=by simp;omega
       have HGG:=aa hgg
       clear hgg
       by_cases hlst:gs<last
       ·have t1:decide ((gs:Int)<(last:Int))=true:=by simp;omega
        have t2:decide (gs<last)=true:=by simp;omega
        have HT:=aa t2
        clear hlst
        repeat (go_big_quiet_step ((first|(go_at_call 98;with_reducible exact dC (H83.out _ (aR.below _)))|(go_at_call 46;first|with_reducible exact ca (H71.out _ _ (aR.below _))|with_reducible exact ca (H71'.out _ _ (aR.below _))))))
        refine wpQuiet_nil ?_
        intro _ ⟨nq,hnq⟩
        subst hnq
        go_wp2
        go_meet
        exact⟨by rw[CC.out,OK.out,HT.out];simp,nq.below⟩
       ·have t1:decide ((gs:Int)<(last:Int))=false:=by simp;omega
        have t2:decide (gs<last)=false:=by simp;omega
        have HT:=aa t2
        clear hlst
        repeat (go_big_quiet_step ((first|(go_at_call 98;with_reducible exact dC (H83.out _ (aR.below _)))|(go_at_call 46;first|with_reducible exact ca (H71.out _ _ (aR.below _))|with_reducible exact ca (H71'.out _ _ (aR.below _))))))
        refine wpQuiet_nil ?_
        intro _ ⟨nq,hnq⟩
        subst hnq
        go_wp2
        go_meet
        exact⟨by rw[CC.out,OK.out,HT.out,HP.out,decide_eq_false HK.out,decide_eq_true HGG.out];simp,nq.below⟩
      ·have r1:((gs:Int) == (g:Int))=false:=by simp;omega
       have r2:((gs:Int) != (g:Int))=true:=by simp;omega
       have r3:(gs == g)=false:=by simp;omega
       have HGG:=aa hgg
       clear hgg
       repeat (go_big_quiet_step ((first|(go_at_call 98;with_reducible exact dC (H83.out _ (aR.below _)))|(go_at_call 46;first|with_reducible exact ca (H71.out _ _ (aR.below _))|with_reducible exact ca (H71'.out _ _ (aR.below _))))))
       refine wpQuiet_nil ?_
       intro _ ⟨nq,hnq⟩
       subst hnq
       go_wp2
       go_meet
       exact⟨by rw[CC.out,OK.out,decide_eq_false HGG.out];simp,nq.below⟩
     ·rw[hp]at a1
      replace a1:bits .and .u8 (kd:Int) 1=1:=a1
      have HP:=aa hp
      clear hp
      by_cases hk0:k=0
      ·have q1:((ix:Int) == (at':Int))=true:=by have:=HIX.out;simp;omega
       have q2:(ix == at')=true:=by have:=HIX.out;simp;omega
       have HG1:=aa (HG0.out hk0)
       have HK:=aa hk0
       clear hk0
       have r1:((gs:Int) == (g:Int))=true:=by rw[HG1.out];simp
       have r2:((gs:Int) != (g:Int))=false:=by rw[HG1.out];simp
       have r3:(gs == g)=true:=by rw[HG1.out];simp
       by_cases hlst:gs<last
       ·have t1:decide ((gs:Int)<(last:Int))=true:=by simp;omega
        have t2:decide (gs<last)=true:=by simp;omega
        have HT:=aa t2
        clear hlst
        repeat (go_big_quiet_step ((first|(go_at_call 98;with_reducible exact dC (H83.out _ (aR.below _)))|(go_at_call 46;first|with_reducible exact ca (H71.out _ _ (aR.below _))|with_reducible exact ca (H71'.out _ _ (aR.below _))))))
        refine wpQuiet_nil ?_
        intro _ ⟨nq,hnq⟩
        subst hnq
        go_wp2
        go_meet
        exact⟨by rw[CC.out,OK.out,HT.out];simp,nq.below⟩
       ·have t1:decide ((gs:Int)<(last:Int))=false:=by simp;omega
        have t2:decide (gs<last)=false:=by simp;omega
        have HT:=aa t2
        clear hlst
        repeat (go_big_quiet_step ((first|(go_at_call 98;with_reducible exact dC (H83.out _ (aR.below _)))|(go_at_call 46;first|with_reducible exact ca (H71.out _ _ (aR.below _))|with_reducible exact ca (H71'.out _ _ (aR.below _))))))
        refine wpQuiet_nil ?_
        intro _ ⟨nq,hnq⟩
        subst hnq
        go_wp2
        go_meet
        exact⟨by rw[CC.out,OK.out,HT.out,HP.out,decide_eq_true HK.out,decide_eq_true HG1.out];simp,nq.below⟩
      have q1:((ix:Int) == (at':Int))=false:=by have:=HIX.out;simp;omega
      have q2:(ix == at')=false:=by have:=HIX.out;simp;omega
      have HK:=aa hk0
      clear hk0
      repeat (go_big_quiet_step ((first|(go_at_call 98;with_reducible exact dC (H83.out _ (aR.below _)))|(go_at_call 46;first|with_reducible exact ca (H71.out _ _ (aR.below _))|with_reducible exact ca (H71'.out _ _ (aR.below _))))))
      refine wpQuiet_nil ?_
      intro _ ⟨nq,hnq⟩
      subst hnq
      go_wp2
      go_meet
      exact⟨by rw[CC.out,OK.out,HP.out,decide_eq_false HK.out];simp,nq.below⟩
    case rest =>
    obtain⟨rfl,hB3⟩:=hcut
    obtain⟨w1,hw1⟩:=zg wc
    rw[<-hw1]at hB3 ⊢
    clear hw1 H83 H71 H71'
    have HO1:=aa (jy HO.out hB3)
    have hB4:Below w0.heap.size w0 w1:=hB2.trans (hB3.mono hs1)
    have hB5:Below wo.heap.size wo w1:=hB1.trans (hB3.mono hsw)
    have c10:=ag hB3 c10
    have c11:=ag hB3 c11
    have hs2:=hB4.size
    have hs3:=hB5.size
    have OK2:Hid ((cr s ix && (decide (bq s%2=1) == decide (k=0)) && decide (bH s=g))=ok):=by show _=_;rw[<-KD.out,<-GS.out,<-GD.out,<-OK.out]
    cases cont
    ·have HN:Hid (pre=R):=by
      show _=_
      rw[<-HRC.out]
      cases ok
      ·have h3:r=none:=by rw[<-HRG.out,<-HIX.out];exact pG HXX.out _ _ _ OK2.out
       rw[gh (by rw[<-RR.out];exact h3),List.append_nil]
      ·have h3:=CC.out
       have h4:=OK2.out
       simp only[Bool.and_eq_true,decide_eq_true_eq]at h4
       have h5:gs<last:=by simpa using h3
       rw[GS.out,h4.2,GG.out]at h5
       rw[sD h5,List.append_nil]
     clear HRG HRC RR HR0 HY HB HS HX
     go_wp2
     try rw[Exit.noGoto_ret]
     refine bodyPost_ret (results_none rfl _ _ _) rfl ?_
     exact⟨⟨_,rfl⟩,by rw[<-HN.out];exact HG.out _ _ _ HJ.out hB5⟩
    ·obtain⟨hok1,hgl⟩:ok=true/\¬gs<last:=by
      have h3:=CC.out.symm
      rw[Bool.and_eq_true]at h3
      exact⟨h3.1,of_decide_eq_false (by simpa using h3.2)⟩
     have OK3:Hid ((cr s ix && (decide (bq s%2=1) == decide (k=0)) && decide (bH s=g))=true):=by show _=_;rw[OK2.out,hok1]
     have hgg:gs=g:=by
      have h4:=OK3.out
      simp only[Bool.and_eq_true,decide_eq_true_eq]at h4
      rw[GS.out];exact h4.2
     obtain⟨hln112,hkd3⟩:ln<=112/\kd<=3:=by
      have h1:=OK3.out
      simp only[Bool.and_eq_true]at h1
      rw[LN.out,KD.out]
      exact nY h1.1.1
     have HP:Hid (Sl 1 ai w1 (some ⟨f',o+12,none⟩) ln (bC s)):=by
      show Sl 1 ai w1 (some ⟨f',o+12,none⟩) ln (bC s)
      unfold bC
      rw[<-LN.out]
      exact gQ (HSSW.out.below ai.keeps hB4) 12 ln om
     obtain⟨n1,n2,n3,n4⟩:=bV HP.out
     have N1:=aa n1
     have N2:=aa n2
     have N3:=aa n3
     have N4:=aa n4
     have HGG:=aa hgg
     have a2:=Ar hkd3
     have wln:IntKind.i64.wrap (ln:Int)=(ln:Int):=by rw[IntKind.wrap_i64];omega
     have s1:(0:Int)<=12+(ln:Int):=om
     have s2:12+(ln:Int)<=(xc:Int):=om
     have s3:(12:Int)<=12+(ln:Int):=om
     have s4:¬xc=12:=om
     have hkm:112*k<=112*4096:=by have:=HIX.out;omega
     clear n1 n2 n3 n4 HP hok1 hgg
     go_upto_region 8 with (at_builtin;refine aD rfl (.tmp 53) (.tmp 60) 40 rfl wo.heap.size 5 i0 (.int .u8 0) 1 1 Tryz.underlying40 hi0 hz0 hz1 hz2 rfl (by decide) (.slice va m vc) m (af acc) rfl HO1.out (some ⟨f',o+12,none⟩) ln (xc-12) (af (bC s)) ?px N1.out N2.out N3.out N4.out ?p0 ?p1 ?p2 ?_;rotate_right;intro va2 vc2 w2 hown hgrow)
     case px=>simp[Act.eval]
     case p0=>unfold maxLen;omega
     case p1=>omega
     case p2=>omega
     have hB6:Below wo.heap.size wo w2:=hB5.grown hgrow om (fun q hq=>(HO1.out.lt q hq).1)
     have hB7:Below w0.heap.size w0 w2:=hB.trans (hB6.mono hs0)
     rw[<-nV]at hown
     have HO2:=aa hown
     clear c10 c11
     have c10:=ag hB7 C10.out
     clear hown hgrow HO1 N1 N2 N3 N4
     by_cases h2:2<=kd
     ·rw[if_pos h2]at a2
      have HN:Hid (r=some (acc++bC s,ix+1)):=by
       show _=_
       rw[<-HRG.out,<-HIX.out]
       exact nQ HXX.out _ _ _ OK3.out (by rw[<-KD.out];exact h2)
      have HC:Hid ((pre++[acc++bC s])++cO l f (ix+1) gs=R):=by
       show _=_
       have h3:¬cw l at'<last:=by rw[<-GG.out,<-HGG.out];exact hgl
       rw[<-HRC.out,jX (by rw[<-RR.out];exact HN.out) h3,<-GG.out,<-HGG.out]
       simp
      go_upto_region 10 with (go_at_call 46;refine(HW71.out _ _ hB7).mono ?_;rintro e w' ⟨rfl,rfl⟩)
      obtain⟨fn,tmps,assign,body,hy,hRd⟩:=HY.out pre (ix+1,va2,m+ln,vc2) (acc++bC s) (cO l f (ix+1) gs) w2 (by rw[<-HC.out];simp) (HG.out _ _ _ HJ.out hB6) (dN HO2.out hs0)
      have e1:(((ix+1:Nat):Int))=(ix:Int)+1:=om
      simp only[ym,e1]at hy
      have HRd:=aa hRd
      have HIX1:Hid (ix+1<=n):=hlt
      have HFF:Hid (n+1<=f+(ix+1)):=by show _<=_;have:=HIX.out;omega
      clear hRd e1 HRG RR HR0 HN OK OK2 OK3 CC a2 HIX HKK HGG HG0 GG h2
      refine wpIn_wide.1 (?_:Code.wpIn Fence.wide n' Tryz.prog _ _ _ _)
      gi_wp2
      refine⟨fun hf=>(by simp[Fence.wide]at hf),HRd.out.mono ?_⟩
      rintro e W3 ⟨rfl,hJ3,hk3⟩
      have HJ3:=aa hJ3
      clear hJ3
      gi_wp2
      go_wp2
      go_roundg f
      case measure=>omega
      case rel=>exact⟨ix+1,gs,pre++[acc++bC s],HIX1.out,HFF.out,by go_num,rfl,HJ3.out,hB7.trans hk3.1,hk3.2 _ (ag hB6 HX.out),HC⟩
     ·rw[if_neg h2]at a2
      have HN:Hid (du g (l.drop (at'+(k+1))) (at'+(k+1)) (decide (k+1=0)) (acc++bC s)=r):=by
       show _=_
       rw[<-HRG.out,<-HIX.out,kE HXX.out _ _ _ OK3.out (by rw[<-KD.out];omega)]
       rw[show at'+(k+1)=ix+1 by rw[HIX.out];omega]
       simp
      go_wp2
      go_roundg g2
      case measure=>omega
      case rel=>exact⟨k+1,va2,m+ln,vc2,acc++bC s,by have:=HKK.out;omega,rfl,rfl,by have:=HIX.out;congr 1;omega,rfl,om,HO2.out,hB6,HN⟩
end Go.Proofs.YtmflnpdmlfmcpaaGreatDoor
