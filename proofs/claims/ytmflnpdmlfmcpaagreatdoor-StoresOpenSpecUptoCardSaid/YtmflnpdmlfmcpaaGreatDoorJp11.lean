/- Joined texts. -/
import Derived.Test.YtmflnpdmlfmcpaaGreatDoorJp07
import Derived.Test.YtmflnpdmlfmcpaaGreatDoorJp10
set_option maxRecDepth 100000
set_option maxHeartbeats 4000000
namespace Go.Proofs.YtmflnpdmlfmcpaaGreatDoor
open Go.RowKit
variable {Nz : Nat}
def i6 (Nz:Nat)(e:Ending)(w:World)(d:aj)(n:Int):Prop:=∃a1 n1 c1 a2 n2 c2,e=.returned (.tuple #[.agg #[.slice a1 n1 c1,.slice a2 n2 c2,.int .i64 d.left,.bool d.stopped],.int .i64 n])/\bF Nz w a1 n1 c1 a2 n2 c2 d
theorem ly {e:Ending}{w:World}{p:aj × Int}{d:aj}{n:Int}(h:∃v,e=.returned (.tuple #[v,.int .i64 p.2])/\eJ Nz w v p.1)(hd:p=(d,n)):i6 Nz e w d n:=by
 subst hd
 obtain⟨v,rfl,a1,n1,c1,a2,n2,c2,rfl,hR⟩:=h
 exact⟨_,_,_,_,_,_,rfl,hR⟩
theorem Af {a1:Option Addr}{n1 c1:Nat}{a2:Option Addr}{n2 c2:Nat}{d d':aj}{i n:Int}{ba:Option Addr}{bn bc:Nat}{b:List UInt8}{w:World}(h:bF Nz w a1 n1 c1 a2 n2 c2 d)(hb:Sl 1 ai w ba bn b)(hbm:bn<=maxLen)(hd:d.write i b=(d',n)) :
  Calls Tryz.prog 49 #[.agg #[.slice a1 n1 c1,.slice a2 n2 c2,.int .i64 d.left,.bool d.stopped],.int .i64 i,.slice ba bn bc] w fun e w'=>i6 Nz e w' d' n/\Below w.heap.size w w':=
 (vL a1 n1 c1 a2 n2 c2 d i ba bn bc b w h hb hbm).mono fun _ _ ⟨h1,h2⟩=>⟨ly h1 hd,h2⟩
theorem Br {a1:Option Addr}{n1 c1:Nat}{a2:Option Addr}{n2 c2:Nat}{d d':aj}{n:Int}{w:World}(h:bF Nz w a1 n1 c1 a2 n2 c2 d)(hd:d.sync=(d',n)) :
  Calls Tryz.prog 51 #[.agg #[.slice a1 n1 c1,.slice a2 n2 c2,.int .i64 d.left,.bool d.stopped]] w fun e w'=>i6 Nz e w' d' n/\Below w.heap.size w w':=
 (yg a1 n1 c1 a2 n2 c2 d w h).mono fun _ _ ⟨h1,h2⟩=>⟨ly h1 hd,h2⟩
theorem Eh (k:Nat)(w:World)(hk1:1<=k)(hk:k<=60):Calls Tryz.prog 16 #[.int .i64 k] w fun e w'=>i6 Nz e w' (aj.fresh k) 0/\Below w.heap.size w w':=
 (Bq k w hk1 hk).mono fun _ _ ⟨h1,h2⟩=>⟨ly (p:=(aj.fresh k,0)) h1 rfl,h2⟩
end Go.Proofs.YtmflnpdmlfmcpaaGreatDoor
namespace Go.Proofs.YtmflnpdmlfmcpaaGreatDoor
open Go.RowKit
variable {Nz : Nat}
def bd (n:Nat):Nat:=max 1 ((n+111)/112)
def au (l:List (List UInt8)):Nat:=(l.map fun b=>bd b.length).sum
theorem kj (n:Nat):bd n<=n+1:=by unfold bd;omega
theorem iK (l:List (List UInt8))(k:Nat)(b:List UInt8)(h:l[k]? = some b):au (l.take (k+1))=au (l.take k)+bd b.length:=by
 unfold au
 rw[cp l k b h]
 simp
theorem qT (l:List (List UInt8))(M:Nat)(h:∀b ∈ l,b.length<=M):au l<=l.length*(M+1):=by
 unfold au
 induction l with
 | nil=>simp
 | cons b l ih =>
  have h1:=h b List.mem_cons_self
  have h2:=ih (fun x hx=>h x (List.mem_cons_of_mem _ hx))
  have h3:=kj b.length
  simp only[List.map_cons,List.sum_cons,List.length_cons]
  rw[Nat.add_mul]
  omega
theorem jU (a:Option Addr)(n c:Nat)(w:World)(hn:n<=100000) :
  Calls Tryz.prog 41 #[.slice a n c] w fun e w'=>e=.returned (.int .i64 (bd n))/\w=w':=by
 have h1:IntKind.i64.wrap ((n:Int)+112)=(n:Int)+112:=by rw[IntKind.wrap_i64];omega
 have h2:IntKind.i64.wrap ((n:Int)+112-1)=(n:Int)+111:=by rw[IntKind.wrap_i64];omega
 go_enter Tryz.func41,Tryz.ntmps41
 go_wp2
 all_goals
  go_ret
  exact⟨bY (by unfold bd;omega),rfl⟩
theorem lz (n:Nat)(w:World)(hn:n<=100000) :
  Calls Tryz.prog 68 #[.int .i64 n] w fun e w'=>e=.returned (.int .i64 (bd n))/\w=w':=by
 have h1:IntKind.i64.wrap ((n:Int)+112)=(n:Int)+112:=by rw[IntKind.wrap_i64];omega
 have h2:IntKind.i64.wrap ((n:Int)+112-1)=(n:Int)+111:=by rw[IntKind.wrap_i64];omega
 go_enter Tryz.func68,Tryz.ntmps68
 go_wp2
 all_goals
  go_ret
  exact⟨bY (by unfold bd;omega),rfl⟩
theorem ni (a:Option Addr)(n c:Nat)(l:List (List UInt8))(w:World)(hn:n<=5000)(hl:∀b ∈ l,b.length<=100000)(h:Sl 1 (aN Nz) w a n l) :
  Calls Tryz.prog 42 #[.slice a n c] w fun e w'=>e=.returned (.int .i64 (au l))/\w=w':=by
 have HL:=aa h.len
 have HB:=aa hl
 rcases h.secs with h0|⟨b,off,rfl,hc⟩
 ·obtain rfl:=h0
  clear h
  go_enter Tryz.func42,Tryz.ntmps42
  go_wp2
  refine wp_loop_rounds 1 ?_
  rw[rounds_succ]
  go_wp2
  go_ret
  exact⟨bY (by rw[List.eq_nil_of_length_eq_zero HL.out];rfl),rfl⟩
 clear h hl
 go_enter Tryz.func42,Tryz.ntmps42
 go_wp2
 go_loop [2,7] (fun z i=>∃k:Nat,k<=n/\i=.int .i64 k/\z=.int .i64 (au (l.take k))) (fun _ i=>n-(intOf i).toNat)
 case atStart=>exact⟨0,Nat.zero_le _,rfl,rfl⟩
 case round =>
  obtain⟨k,hk,rfl,rfl⟩:=hrel
  by_cases hlt:k<n
  ·obtain⟨x,hx⟩:=av HL.out hlt
   obtain⟨xa,xn,xc,_,_,hxs,hcell⟩:=hc k x hx
   have hxl:=hxs.len
   have hx1:xn<=100000:=by rw[<-hxl];exact HB.out x (List.mem_of_getElem? hx)
   have hu:=iK l k x hx
   have hul:=qT (l.take k) 100000 (fun b hb=>HB.out b (List.mem_of_mem_take hb))
   have hll:(l.take k).length<=5000:=by simp;omega
   have hub:au (l.take k)<=500005000:=Nat.le_trans hul (by have:=Nat.mul_le_mul_right 100001 hll;omega)
   have hse:=kj xn
   rw[hxl]at hu
   obtain⟨u,hu0⟩:=zg (au (l.take k))
   obtain⟨sx,hs0⟩:=zg (bd xn)
   rw[<-hu0,<-hs0]at hu
   rw[<-hu0]at hub ⊢
   rw[<-hs0]at hse
   have HU:=aa hu
   have hw:IntKind.i64.wrap ((u:Int)+(sx:Int))=((u+sx:Nat):Int):=by rw[IntKind.wrap_i64];omega
   have HSX:Hid (∀W,Calls Tryz.prog 41 #[.slice xa xn xc] W fun e w'=>e=.returned (.int .i64 sx)/\W=w'):=fun W=>by rw[hs0];exact jU xa xn xc W hx1
   clear hc hx hxs hxl hu hul hll hu0 hs0
   go_wp2_with (go_at_call 41;refine(HSX.out _).mono ?_;rintro e w' ⟨rfl,rfl⟩)
   go_round
   case rel=>exact⟨k+1,om,by go_num,by rw[HU.out];first|rfl|(congr 1;omega)⟩
   case measure=>simp[intOf];omega
  ·obtain rfl:k=n:=om
   clear hc
   go_wp2
   go_ret
   exact⟨bY (by rw[List.take_of_length_le (by have:=HL.out;omega)]),rfl⟩
theorem pJ (a:Option Addr)(n c:Nat)(l:List (List UInt8))(w:World)(hn:n<=5000)(hl:∀b ∈ l,b.length<=100000)(h:Sl 1 (aN Nz) w a n l) :
  Calls Tryz.prog 66 #[.slice a n c] w fun e w'=>e=.returned (.int .i64 (au l))/\w=w':=by
 have HL:=aa h.len
 have HB:=aa hl
 rcases h.secs with h0|⟨b,off,rfl,hc⟩
 ·obtain rfl:=h0
  clear h
  go_enter Tryz.func66,Tryz.ntmps66
  go_wp2
  refine wp_loop_rounds 1 ?_
  rw[rounds_succ]
  go_wp2
  go_ret
  exact⟨bY (by rw[List.eq_nil_of_length_eq_zero HL.out];rfl),rfl⟩
 clear h hl
 go_enter Tryz.func66,Tryz.ntmps66
 go_wp2
 go_loop [3,4] (fun z i=>∃k:Nat,k<=n/\i=.int .i64 k/\z=.int .i64 (au (l.take k))) (fun _ i=>n-(intOf i).toNat)
 case atStart=>exact⟨0,Nat.zero_le _,rfl,rfl⟩
 case round =>
  obtain⟨k,hk,rfl,rfl⟩:=hrel
  by_cases hlt:k<n
  ·obtain⟨x,hx⟩:=av HL.out hlt
   obtain⟨xa,xn,xc,_,_,hxs,hcell⟩:=hc k x hx
   have hxl:=hxs.len
   have hx1:xn<=100000:=by rw[<-hxl];exact HB.out x (List.mem_of_getElem? hx)
   have hu:=iK l k x hx
   have hul:=qT (l.take k) 100000 (fun b hb=>HB.out b (List.mem_of_mem_take hb))
   have hll:(l.take k).length<=5000:=by simp;omega
   have hub:au (l.take k)<=500005000:=Nat.le_trans hul (by have:=Nat.mul_le_mul_right 100001 hll;omega)
   have hse:=kj xn
   rw[hxl]at hu
   obtain⟨u,hu0⟩:=zg (au (l.take k))
   obtain⟨sx,hs0⟩:=zg (bd xn)
   rw[<-hu0,<-hs0]at hu
   rw[<-hu0]at hub ⊢
   rw[<-hs0]at hse
   have HU:=aa hu
   have hw:IntKind.i64.wrap ((u:Int)+(sx:Int))=((u+sx:Nat):Int):=by rw[IntKind.wrap_i64];omega
   have HSX:Hid (∀W,Calls Tryz.prog 68 #[.int .i64 xn] W fun e w'=>e=.returned (.int .i64 sx)/\W=w'):=fun W=>by rw[hs0];exact lz xn W hx1
   clear hc hx hxs hxl hu hul hll hu0 hs0
   go_wp2_with (go_at_call 68;refine(HSX.out _).mono ?_;rintro e w' ⟨rfl,rfl⟩)
   go_round
   case rel=>exact⟨k+1,om,by go_num,by rw[HU.out];first|rfl|(congr 1;omega)⟩
   case measure=>simp[intOf];omega
  ·obtain rfl:k=n:=om
   clear hc
   go_wp2
   go_ret
   exact⟨bY (by rw[List.take_of_length_le (by have:=HL.out;omega)]),rfl⟩
end Go.Proofs.YtmflnpdmlfmcpaaGreatDoor
namespace Go.Proofs.YtmflnpdmlfmcpaaGreatDoor
open Go.RowKit
variable {Nz : Nat}
structure am where
 recs:List (List UInt8)
 many:Int
 synced:Int
structure cg (Nz:Nat)(w:World)(a:Option Addr)(n c:Nat)(j:am):Prop where
 recs:Sl 1 (aN Nz) w a n j.recs
 m:n<=5000
 k:n<=c
 f:bO Nz w a n
 s:∀b ∈ j.recs,b.length<=100000
theorem cg.below {w w':World}{a:Option Addr}{n c:Nat}{j:am}(h:cg Nz w a n c j)(hb:Below w.heap.size w w'):cg Nz w' a n c j:=
 ⟨h.recs.below aN.keeps hb,h.m,h.k,h.f.below hb,h.s⟩
def am.okB (j:am):Bool:=decide (1<=j.many) && decide (j.many<=4096) && decide (0<=j.synced) && decide (j.synced<=j.recs.length) && decide ((au j.recs:Int)<=j.many)
def am.check (j:am):Int:=if j.okB then 0 else 1
def am.room (j:am):Int:=if j.okB then 112*(j.many-au j.recs) else 0
theorem eM {j:am}(h:j.okB=true):1<=j.many/\j.many<=4096/\0<=j.synced/\j.synced<=j.recs.length/\(au j.recs:Int)<=j.many:=by
 simp only[am.okB,Bool.and_eq_true,decide_eq_true_eq]at h
 omega
theorem iL (a:Option Addr)(n c:Nat)(j:am)(w:World)(h:cg Nz w a n c j) :
  Calls Tryz.prog 27 #[.agg #[.slice a n c,.int .i64 j.many,.int .i64 j.synced]] w fun e w'=>e=.returned (.int .i64 j.check)/\Below w.heap.size w w':=by
 obtain⟨m,hm⟩:=zg j.many
 obtain⟨s,hs⟩:=zg j.synced
 obtain⟨u,hu⟩:=zg (au j.recs)
 have HO:Hid (j.okB=(decide (1<=m) && decide (m<=4096) && decide (0<=s) && decide (s<=n) && decide ((u:Int)<=m))):=by
  show _=_
  unfold am.okB
  rw[<-hm,<-hs,<-hu,h.recs.len]
 have HC:Hid (∀W,Below w.heap.size w W->Calls Tryz.prog 42 #[.slice a n c] W fun e w'=>e=.returned (.int .i64 u)/\w'=W):=fun W hW=>by rw[hu];exact(ni _ _ _ _ W h.m h.s (h.recs.below aN.keeps hW)).mono fun _ _ ⟨h1,h2⟩=>⟨h1,h2.symm⟩
 rw[<-hm,<-hs]
 clear h hm hs hu
 have fin:∀r:Bool,j.okB=r->Ending.returned (.int .i64 (if r then 0 else 1))=.returned (.int .i64 j.check):=fun r hr=>by rw[am.check,hr]
 have FIN:=aa fin
 clear fin
 go_enter Tryz.func27,Tryz.ntmps27
 by_cases h1:m<1
 ·have HV:Hid (j.okB=false):=by show _=_;rw[HO.out,decide_eq_false (show ¬1<=m by omega)];rfl
  go_wp2_with fail
  go_quiet (fail)
  go_wp2
  go_ret
  exact⟨FIN.out false HV.out,below_drewN (by go_grown) nq⟩
 by_cases h2:4096<m
 ·have HV:Hid (j.okB=false):=by show _=_;rw[HO.out,decide_eq_false (show ¬m<=4096 by omega)];simp
  go_wp2_with fail
  go_quiet (fail)
  go_wp2
  go_ret
  exact⟨FIN.out false HV.out,below_drewN (by go_grown) nq⟩
 by_cases h3:s<0
 ·have HV:Hid (j.okB=false):=by show _=_;rw[HO.out,decide_eq_false (show ¬0<=s by omega)];simp
  go_wp2_with fail
  go_quiet (fail)
  go_wp2
  go_ret
  exact⟨FIN.out false HV.out,below_drewN (by go_grown) nq⟩
 by_cases h4:(n:Int)<s
 ·have HV:Hid (j.okB=false):=by show _=_;rw[HO.out,decide_eq_false (show ¬s<=(n:Int) by omega)];simp
  go_wp2_with fail
  go_quiet (fail)
  go_wp2
  go_ret
  exact⟨FIN.out false HV.out,below_drewN (by go_grown) nq⟩
 by_cases h5:m<(u:Int)
 ·have HV:Hid (j.okB=false):=by show _=_;rw[HO.out,decide_eq_false (show ¬(u:Int)<=m by omega)];simp
  go_wp2_with fail
  go_quiet ((go_at_call 42;exact Calls.quiet_of_same (HC.out _ (below_drewN ((Below.refl _ w).alloc (Nat.le_refl _) _) _))))
  go_wp2
  go_ret
  exact⟨FIN.out false HV.out,below_drewN (by go_grown) nq⟩
 ·have HV:Hid (j.okB=true):=by show _=_;rw[HO.out,decide_eq_true (show 1<=m by omega),decide_eq_true (show m<=4096 by omega),decide_eq_true (show 0<=s by omega),decide_eq_true (show s<=(n:Int) by omega),decide_eq_true (show (u:Int)<=m by omega)];rfl
  go_wp2_with fail
  go_quiet ((go_at_call 42;exact Calls.quiet_of_same (HC.out _ (below_drewN ((Below.refl _ w).alloc (Nat.le_refl _) _) _))))
  go_wp2
  go_ret
  exact⟨FIN.out true HV.out,below_drewN (by go_grown) nq⟩
theorem mF (a:Option Addr)(n c:Nat)(j:am)(w:World)(h:cg Nz w a n c j) :
  Calls Tryz.prog 28 #[.agg #[.slice a n c,.int .i64 j.many,.int .i64 j.synced]] w fun e w'=>e=.returned (.int .i64 j.check)/\Below w.heap.size w w':=by
 obtain⟨m,hm⟩:=zg j.many
 obtain⟨s,hs⟩:=zg j.synced
 obtain⟨u,hu⟩:=zg (au j.recs)
 have HO:Hid (j.okB=(decide (1<=m) && decide (m<=4096) && decide (0<=s) && decide (s<=n) && decide ((u:Int)<=m))):=by
  show _=_
  unfold am.okB
  rw[<-hm,<-hs,<-hu,h.recs.len]
 have HC:Hid (∀W,Below w.heap.size w W->Calls Tryz.prog 66 #[.slice a n c] W fun e w'=>e=.returned (.int .i64 u)/\w'=W):=fun W hW=>by rw[hu];exact(pJ _ _ _ _ W h.m h.s (h.recs.below aN.keeps hW)).mono fun _ _ ⟨h1,h2⟩=>⟨h1,h2.symm⟩
 rw[<-hm,<-hs]
 clear h hm hs hu
 have fin:∀r:Bool,j.okB=r->Ending.returned (.int .i64 (if r then 0 else 1))=.returned (.int .i64 j.check):=fun r hr=>by rw[am.check,hr]
 have FIN:=aa fin
 clear fin
 go_enter Tryz.func28,Tryz.ntmps28
 by_cases h1:m<1
 ·have HV:Hid (j.okB=false):=by show _=_;rw[HO.out,decide_eq_false (show ¬1<=m by omega)];rfl
  go_wp2_with fail
  go_quiet (fail)
  go_wp2
  go_ret
  exact⟨FIN.out false HV.out,below_drewN (by go_grown) nq⟩
 by_cases h2:4096<m
 ·have HV:Hid (j.okB=false):=by show _=_;rw[HO.out,decide_eq_false (show ¬m<=4096 by omega)];simp
  go_wp2_with fail
  go_quiet (fail)
  go_wp2
  go_ret
  exact⟨FIN.out false HV.out,below_drewN (by go_grown) nq⟩
 by_cases h3:s<0
 ·have HV:Hid (j.okB=false):=by show _=_;rw[HO.out,decide_eq_false (show ¬0<=s by omega)];simp
  go_wp2_with fail
  go_quiet (fail)
  go_wp2
  go_ret
  exact⟨FIN.out false HV.out,below_drewN (by go_grown) nq⟩
 by_cases h4:(n:Int)<s
 ·have HV:Hid (j.okB=false):=by show _=_;rw[HO.out,decide_eq_false (show ¬s<=(n:Int) by omega)];simp
  go_wp2_with fail
  go_quiet (fail)
  go_wp2
  go_ret
  exact⟨FIN.out false HV.out,below_drewN (by go_grown) nq⟩
 by_cases h5:m<(u:Int)
 ·have HV:Hid (j.okB=false):=by show _=_;rw[HO.out,decide_eq_false (show ¬(u:Int)<=m by omega)];simp
  go_wp2_with fail
  go_quiet ((go_at_call 66;exact Calls.quiet_of_same (HC.out _ (below_drewN ((Below.refl _ w).alloc (Nat.le_refl _) _) _))))
  go_wp2
  go_ret
  exact⟨FIN.out false HV.out,below_drewN (by go_grown) nq⟩
 ·have HV:Hid (j.okB=true):=by show _=_;rw[HO.out,decide_eq_true (show 1<=m by omega),decide_eq_true (show m<=4096 by omega),decide_eq_true (show 0<=s by omega),decide_eq_true (show s<=(n:Int) by omega),decide_eq_true (show (u:Int)<=m by omega)];rfl
  go_wp2_with fail
  go_quiet ((go_at_call 66;exact Calls.quiet_of_same (HC.out _ (below_drewN ((Below.refl _ w).alloc (Nat.le_refl _) _) _))))
  go_wp2
  go_ret
  exact⟨FIN.out true HV.out,below_drewN (by go_grown) nq⟩
end Go.Proofs.YtmflnpdmlfmcpaaGreatDoor
namespace Go.Proofs.YtmflnpdmlfmcpaaGreatDoor
open Go.RowKit
variable {Nz : Nat}
def am.zero : am:=⟨[],0,0⟩
def ci (d:aj):am × Int:=if d.okB then (if d.stopped then (.zero,40) else if 0<d.pend.length then (.zero,1) else (⟨bN d.secs,d.secs.length,(bN d.secs).length⟩,0)) else (.zero,40)
theorem vU {d:aj}(h:d.okB=false):ci d=(.zero,40):=by simp[ci,h]
theorem lh {d:aj}(h:d.okB=true)(hs:d.stopped=true):ci d=(.zero,40):=by simp[ci,h,hs]
theorem nZ {d:aj}(h:d.okB=true)(hs:d.stopped=false)(hp:0<d.pend.length):ci d=(.zero,1):=by simp[ci,h,hs,hp]
theorem nl {d:aj}(h:d.okB=true)(hs:d.stopped=false)(hp:d.pend.length=0):ci d=(⟨bN d.secs,d.secs.length,(bN d.secs).length⟩,0):=by simp[ci,h,hs,hp]
theorem iT {d:aj}(h:d.okB=true):∀b ∈ d.secs,b.length=128:=by
 intro b hb
 unfold aj.okB at h
 simp only[Bool.and_eq_true,Bool.not_eq_true']at h
 have h1:=h.2
 cases h2:eq b
 ·simpa[eq] using h2
 ·have:d.secs.any eq=true:=List.any_eq_true.2 ⟨b,hb,h2⟩
  rw[this]at h1
  cases h1
def eW (Nz:Nat)(e:Ending)(w:World)(j:am)(n:Int):Prop:=∃a k c,e=.returned (.tuple #[.agg #[.slice a k c,.int .i64 j.many,.int .i64 j.synced],.int .i64 n])/\cg Nz w a k c j
theorem iB (w:World):cg Nz w none 0 0 am.zero:=⟨Sl.nil _ _ _ _,om,Nat.le_refl _,bO.zero _ _,fun b hb=>by cases hb⟩
theorem CX {d:aj}{w:World}{n:Int}(h:ci d=(.zero,n)):eW Nz (.returned (.tuple #[.agg #[.slice none 0 0,.int .i64 0,.int .i64 0],.int .i64 n])) w (ci d).1 (ci d).2:=by
 rw[h];exact⟨none,0,0,rfl,iB w⟩
theorem aJ {w w':World}{b:Nat}{v0 v1 v2:Value}{t:TypeId}(hB:Below w.heap.size w w')(h:w.heap[b]? = some (.cells #[v0,v1,v2] t (0,0))) :
  b<w'.heap.size/\w'.cell? ⟨b,0,none⟩=some v0/\w'.cell? ⟨b,1,none⟩=some v1/\w'.cell? ⟨b,2,none⟩=some v2 /\
  ((w'.cell? ⟨b,0,none⟩).isSome=true/\(w'.cell? ⟨b,1,none⟩).isSome=true/\(w'.cell? ⟨b,2,none⟩).isSome=true) /\
  w'.frozen? ⟨b,0,none⟩=false/\w'.frozen? ⟨b,1,none⟩=false/\w'.frozen? ⟨b,2,none⟩=false:=by
 have h':w'.heap[b]? = some (.cells #[v0,v1,v2] t (0,0)):=(hB.block b (Array.getElem?_eq_some_iff.1 h).1).trans h
 exact⟨(Array.getElem?_eq_some_iff.1 h').1,by simp[World.cell?,h'],by simp[World.cell?,h'],by simp[World.cell?,h'],
  ⟨by simp[World.cell?,h'],by simp[World.cell?,h'],by simp[World.cell?,h']⟩,by simp[World.frozen?,h'],by simp[World.frozen?,h'],by simp[World.frozen?,h']⟩
end Go.Proofs.YtmflnpdmlfmcpaaGreatDoor
namespace Go.Proofs.YtmflnpdmlfmcpaaGreatDoor.Dr
abbrev aX := BitVec 32
def aE (x:aX)(n:Nat):aX:=x >>> n ||| x <<< (32-n)
structure S8 where
 a:aX
 b:aX
 c:aX
 d:aX
 e:aX
 f:aX
 g:aX
 h:aX
def i8 (x:aX)(i j k:Nat):aX:=aE x i ^^^ aE x j ^^^ aE x k
def Bt (e f g:aX):aX:=(e &&& f) ^^^ (~~~e &&& g)
def yp (a b c:aX):aX:=(a &&& b) ^^^ (a &&& c) ^^^ (b &&& c)
def pM (k w:aX)(s:S8):aX:=s.h+i8 s.e 6 11 25+Bt s.e s.f s.g+k+w
def qM (s:S8):aX:=i8 s.a 2 13 22+yp s.a s.b s.c
def lC (k w:aX)(s:S8):S8:=⟨pM k w s+qM s,s.a,s.b,s.c,s.d+pM k w s,s.e,s.f,s.g⟩
theorem B7 (e f g:aX):g ^^^ (e &&& (f ^^^ g))=Bt e f g:=by
 unfold Bt
 ext i hi
 simp only[BitVec.getElem_xor,BitVec.getElem_and,BitVec.getElem_not]
 cases e[i]<;>cases f[i]<;>cases g[i]<;>rfl
theorem Bu (a b c:aX):(a &&& b) ||| (c &&& (a ||| b))=yp a b c:=by
 unfold yp
 ext i hi
 simp only[BitVec.getElem_xor,BitVec.getElem_and,BitVec.getElem_or]
 cases a[i]<;>cases b[i]<;>cases c[i]<;>rfl
def ud (x:aX):aX:=aE x 7 ^^^ aE x 18 ^^^ (x >>> 3)
def ue (x:aX):aX:=aE x 17 ^^^ aE x 19 ^^^ (x >>> 10)
def mg (l:List aX)(t:Nat):aX:=l.getD (t-16) 0+ud (l.getD (t-15) 0)+l.getD (t-7) 0+ue (l.getD (t-2) 0)
def cJ (l:List aX):Nat->List aX
 | 0=>l
 | n+1=>cJ l n++[mg (cJ l n) (16+n)]
theorem lD {l:List aX}(h:l.length=16)(n:Nat):(cJ l n).length=16+n:=by
 induction n with
 | zero=>exact h
 | succ n ih=>simp only[cJ,List.length_append,List.length_singleton,ih];omega
def Kl : List aX:=[
 0x428a2f98,0x71374491,0xb5c0fbcf,0xe9b5dba5,0x3956c25b,0x59f111f1,0x923f82a4,0xab1c5ed5,
 0xd807aa98,0x12835b01,0x243185be,0x550c7dc3,0x72be5d74,0x80deb1fe,0x9bdc06a7,0xc19bf174,
 0xe49b69c1,0xefbe4786,0x0fc19dc6,0x240ca1cc,0x2de92c6f,0x4a7484aa,0x5cb0a9dc,0x76f988da,
 0x983e5152,0xa831c66d,0xb00327c8,0xbf597fc7,0xc6e00bf3,0xd5a79147,0x06ca6351,0x14292967,
 0x27b70a85,0x2e1b2138,0x4d2c6dfc,0x53380d13,0x650a7354,0x766a0abb,0x81c2c92e,0x92722c85,
 0xa2bfe8a1,0xa81a664b,0xc24b8b70,0xc76c51a3,0xd192e819,0xd6990624,0xf40e3585,0x106aa070,
 0x19a4c116,0x1e376c08,0x2748774c,0x34b0bcb5,0x391c0cb3,0x4ed8aa4a,0x5b9cca4f,0x682e6ff3,
 0x748f82ee,0x78a5636f,0x84c87814,0x8cc70208,0x90befffa,0xa4506ceb,0xbef9a3f7,0xc67178f2]
theorem Bv : Kl.length=64:=by decide
def i9 (w:List aX):Nat->S8->S8
 | 0,s=>s
 | t+1,s=>lC (Kl.getD t 0) (w.getD t 0) (i9 w t s)
def uf (s v:S8):S8:=⟨s.a+v.a,s.b+v.b,s.c+v.c,s.d+v.d,s.e+v.e,s.f+v.f,s.g+v.g,s.h+v.h⟩
def gR (a b c d:UInt8):aX:=BitVec.ofNat 32 (((a.toNat*256+b.toNat)*256+c.toNat)*256+d.toNat)
theorem mJ (a b c d:UInt8):(gR a b c d).toNat=((a.toNat*256+b.toNat)*256+c.toNat)*256+d.toNat:=by
 have:=a.toNat_lt;have:=b.toNat_lt;have:=c.toNat_lt;have:=d.toNat_lt
 unfold gR
 rw[BitVec.toNat_ofNat]
 omega
def gl (l:List UInt8)(t:Nat):aX:=gR (l.getD (4*t) 0) (l.getD (4*t+1) 0) (l.getD (4*t+2) 0) (l.getD (4*t+3) 0)
def dD (l:List UInt8)(n:Nat):List aX:=(List.range n).map (gl l)
theorem ex (l:List UInt8)(n:Nat):(dD l n).length=n:=by simp[dD]
theorem n7 (l:List UInt8)(n:Nat):dD l (n+1)=dD l n++[gl l n]:=by simp[dD,List.range_succ]
def cK (l:List UInt8):List aX:=cJ (dD l 16) 48
theorem n8 (l:List UInt8):(cK l).length=64:=lD (ex l 16) 48
def gS (s:S8)(l:List UInt8):S8:=uf s (i9 (cK l) 64 s)
def dS : Nat->S8->List UInt8->S8
 | 0,s,_=>s
 | n+1,s,l=>dS n (gS s (l.take 64)) (l.drop 64)
theorem sF (s:S8)(l:List UInt8):gS s (l.take 64)=gS s l:=by
 have h:∀t,t<16->gl (l.take 64) t=gl l t:=by
  intro t ht
  unfold gl
  simp only[List.getD_eq_getElem?_getD]
  rw[List.getElem?_take_of_lt om,List.getElem?_take_of_lt om,List.getElem?_take_of_lt om,List.getElem?_take_of_lt om]
 have hw:dD (l.take 64) 16=dD l 16:=List.map_congr_left fun t ht=>h t (List.mem_range.1 ht)
 unfold gS cK
 rw[hw]
theorem mK (n m:Nat)(s:S8)(l:List UInt8):dS (n+m) s l=dS m (dS n s l) (l.drop (64*n)):=by
 induction n generalizing s l with
 | zero=>simp[dS]
 | succ n ih =>
  rw[show n+1+m=(n+m)+1 by omega]
  simp only[dS]
  rw[ih,List.drop_drop]
  congr 2
  omega
theorem lE (n:Nat)(s:S8)(l:List UInt8):dS (n+1) s l=gS (dS n s l) (l.drop (64*n)):=by
 rw[mK n 1]
 simp only[dS]
 exact sF _ _
theorem ug (n:Nat)(s:S8)(l r:List UInt8)(h:l.take (64*n)=r.take (64*n)):dS n s l=dS n s r:=by
 induction n generalizing s l r with
 | zero=>rfl
 | succ n ih =>
  simp only[dS]
  have h1:l.take 64=r.take 64:=by
   have:=congrArg (List.take 64) h
   rwa [List.take_take,List.take_take,show min 64 (64*(n+1))=64 by omega]at this
  have h2:(l.drop 64).take (64*n)=(r.drop 64).take (64*n):=by
   have:=congrArg (List.drop 64) h
   rwa [List.drop_take,List.drop_take,show 64*(n+1)-64=64*n by omega]at this
  rw[h1]
  exact ih _ _ _ h2
def bI : S8:=⟨0x6a09e667,0xbb67ae85,0x3c6ef372,0xa54ff53a,0x510e527f,0x9b05688c,0x1f83d9ab,0x5be0cd19⟩
def be : Nat->Nat->List UInt8
 | 0,_=>[]
 | k+1,n=>UInt8.ofNat (n/256 ^ k%256)::be k n
theorem eN (k n:Nat):(be k n).length=k:=by
 induction k with
 | zero=>rfl
 | succ k ih=>simp[be,ih]
def dO (n:Nat):Nat:=(119-n%64)%64
def gp (b:List UInt8):List UInt8:=b++([0x80]++(List.replicate (dO b.length) 0++be 8 (b.length*8)))
def dP (s:S8):List UInt8:=be 4 s.a.toNat++be 4 s.b.toNat++be 4 s.c.toNat++be 4 s.d.toNat++be 4 s.e.toNat++be 4 s.f.toNat++be 4 s.g.toNat++be 4 s.h.toNat
theorem ij (s:S8):(dP s).length=32:=by simp[dP,eN]
def dh (n:Nat):Nat:=(n+72)/64
def cL (b:List UInt8):List UInt8:=dP (dS (dh b.length) bI (gp b))
theorem fv (b:List UInt8):(cL b).length=32:=ij _
def ik (tag b:List UInt8):List UInt8:=cL (cL tag++b)
theorem kL (tag b:List UInt8):(ik tag b).length=32:=fv _
theorem uh (b:List UInt8):(gp b).length=64*dh b.length:=by
 simp only[gp,List.length_append,List.length_replicate,eN,List.length_singleton,dO,dh]
 omega
def fw (r:List UInt8)(n:Nat):List UInt8:=r++([0x80]++(List.replicate (dO r.length) 0++be 8 (n*8)))
theorem ui (b:List UInt8):(gp b).drop (64*(b.length/64))=fw (b.drop (64*(b.length/64))) b.length:=by
 unfold gp fw
 rw[List.drop_append,show 64*(b.length/64)-b.length=0 by omega,List.drop_zero]
 congr 3
 unfold dO
 rw[List.length_drop,show (b.length-64*(b.length/64))%64=b.length%64 by omega]
theorem uj (b:List UInt8):cL b=dP (dS (dh (b.length%64)) (dS (b.length/64) bI b) (fw (b.drop (64*(b.length/64))) b.length)):=by
 unfold cL
 rw[show dh b.length=b.length/64+dh (b.length%64) by unfold dh;omega,mK,ui]
 congr 2
 refine ug _ _ _ _ ?_
 unfold gp
 rw[List.take_append_of_le_length om]
end Go.Proofs.YtmflnpdmlfmcpaaGreatDoor.Dr
