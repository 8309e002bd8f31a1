/- Joined texts. -/
import Derived.Test.YtmflnpdmlfmcpaaGreatDoorJp40
set_option maxRecDepth 100000
set_option maxHeartbeats 4000000
namespace Go.Proofs.YtmflnpdmlfmcpaaGreatDoor.Dr
open Go.RowKit Go.Shelf
def sumL (rs:List (List UInt8)):Nat:=(rs.map List.length).sum
theorem sumL_take {rs:List (List UInt8)}{k:Nat}{r:List UInt8}(h:rs[k]? = some r):sumL (rs.take (k+1))=sumL (rs.take k)+r.length:=by
 unfold sumL
 rw[List.take_add_one,h]
 simp
theorem Bi {rs:List (List UInt8)}{B:Nat}(h:∀r ∈ rs,r.length<=B):sumL rs<=rs.length*B:=by
 unfold sumL
 induction rs with
 | nil=>simp
 | cons r rs ih =>
  have h1:=ih (fun q hq=>h q (List.mem_cons_of_mem _ hq))
  have h2:=h r List.mem_cons_self
  simp only[List.map_cons,List.sum_cons,List.length_cons,Nat.add_mul]
  omega
def kg (rs:List (List UInt8))(m:Int):Bool:=decide (m<=100) && decide (rs.length<=100) && decide (sumL rs<=12000)
theorem zV {Nz:Nat}(a:Option Addr)(n c:Nat)(rs:List (List UInt8))(jm js:Int)(w:World)(hn:n<=2000000)(h:Sl 1 (aN Nz) w a n rs)(hs:∀r ∈ rs,r.length<=2000000) :
  Calls Tryz.prog 20 #[.agg #[.slice a n c,.int .i64 jm,.int .i64 js]] w fun e w'=>e=.returned (.bool (kg rs jm))/\Below w.heap.size w w':=by
 obtain⟨r,hr⟩:=zg (kg rs jm)
 rw[<-hr]
 have HR:=aa hr
 have H:=aa (ic h)
 have HL:=aa h.len
 have HD:=aa hs
 clear h hr hs
 go_enter Tryz.func20,Tryz.ntmps20
 go_upto_region 1 with (fail)
 obtain⟨w1,hw1⟩:=zg (w.alloc (.cells #[.slice a n c,.int .i64 jm,.int .i64 js] 24))
 obtain⟨X1,hX1⟩:=zg w.heap.size
 rw[<-hw1,<-hX1]
 have hB1:Below w.heap.size w w1:=by rw[hw1];exact(Below.refl _ w).alloc (Nat.le_refl _) _
 have h1:ac w1 X1 24 [.slice a n c,.int .i64 jm,.int .i64 js]:=by rw[hw1,hX1];exact ak _ rfl
 obtain⟨_,b0,b1,b2,_,_,_⟩:=aJ (Below.refl _ w1) h1
 have HB1:=aa hB1
 clear hw1 hX1 h1 hB1
 go_wp2_with fail
 go_loop [4,3] (fun i s=>∃k:Nat,k<=n/\i=.int .i64 k/\s=.int .i64 (sumL (rs.take k):Nat)) (fun i _=>n-(intOf i).toNat)
 case atStart=>exact⟨0,Nat.zero_le _,rfl,rfl⟩
 case round =>
  obtain⟨k,hk,rfl,rfl⟩:=hrel
  by_cases hlt:k<n
  ·obtain⟨r',b,off,ra,rn,rc,hrk,rfl,hcell,hrc,hsl⟩:=rx H.out hlt
   have hcell:=ag HB1.out hcell
   have hsum:=sumL_take hrk
   have hle:=Bi (rs:=rs.take k) (B:=2000000) (fun q hq=>HD.out q (List.mem_of_mem_take hq))
   have hlk:(rs.take k).length<=k:=by rw[List.length_take];omega
   have hrl:=HD.out r' (List.mem_of_getElem? hrk)
   have hrn:=hsl.1
   obtain⟨z,hz⟩:=zg (sumL (rs.take k))
   have hz1:z<=4000000000000:=by rw[hz];exact Nat.le_trans hle (Nat.mul_le_mul (Nat.le_trans hlk (Nat.le_trans hk hn)) (Nat.le_refl _))
   have hw:IntKind.i64.wrap ((z:Int)+(rn:Int))=(z:Int)+rn:=by rw[IntKind.wrap_i64];omega
   have HSUM:Hid (sumL (rs.take (k+1))=z+rn):=by rw[Hid,hsum,hz,hrn]
   rw[<-hz]
   have k0:(0:Int)<=(k:Int):=om
   have k1:(k:Int)<(n:Int):=om
   clear hrk hsum hle hlk hrl hz hsl hrc
   go_wp2
   go_round
   case rel=>exact⟨k+1,om,by go_num,by rw[HSUM.out];simp⟩
   case measure=>simp[intOf];omega
  ·obtain rfl:k=n:=om
   have ht:rs.take k=rs:=List.take_of_length_le (by rw[HL.out];exact Nat.le_refl _)
   rw[ht]
   obtain⟨z,hz⟩:=zg (sumL rs)
   have HF:Hid (r=(decide (jm<=100) && decide (k<=100) && decide (z<=12000))):=by rw[Hid,HR.out,kg,HL.out,hz]
   rw[<-hz]
   clear ht hz
   by_cases g1:jm<=100<;>by_cases g2:(k:Int)<=100<;>by_cases g3:(z:Int)<=12000
   all_goals
    go_wp2
    go_ret
    exact⟨by rw[HF.out];simp;omega,HB1.out⟩
end Go.Proofs.YtmflnpdmlfmcpaaGreatDoor.Dr
namespace Go.Proofs.YtmflnpdmlfmcpaaGreatDoor
open Go.RowKit
variable {Nz : Nat}
def sh (n1:Nat)(d:aj)(e:Ending):Prop:=∃r:Bool,e=.returned (.bool r)/\(r=true->n1+Dr.sumL d.secs<=9000)
theorem zW (a1:Option Addr)(n1 c1:Nat)(a2:Option Addr)(n2 c2:Nat)(d:aj)(w:World)(h:bF Nz w a1 n1 c1 a2 n2 c2 d)(hs:∀b ∈ d.secs,b.length<=2000000)(hp:∀x ∈ d.pend,x.2.length<=2000000) :
  Calls Tryz.prog 21 #[.agg #[.slice a1 n1 c1,.slice a2 n2 c2,.int .i64 d.left,.bool d.stopped]] w fun e w'=>sh n1 d e/\Below w.heap.size w w':=by
 have L1:=aa h.secs.len
 have HSB:=aa hs
 have HPB:=aa hp
 clear hs hp
 have L2:=aa h.pend.len
 have m1:=h.m1
 have m2:=h.m2
 have hc1:=h.secs.secs
 have SL:Hid (∀k r,d.secs[k]? = some r->Dr.sumL (d.secs.take (k+1))=Dr.sumL (d.secs.take k)+r.length):=fun k r hr=>Dr.sumL_take hr
 have hc2:=h.pend.writes
 unfold maxLen at m1 m2
 have hB0:Hid (∀x,Below w.heap.size w (w.alloc x)):=fun x=>(Below.refl _ _).alloc (Nat.le_refl _) x
 clear h
 go_enter Tryz.func21,Tryz.ntmps21
 go_wp2
 go_loop [4,3] (fun i n=>∃(k:Nat) (z:Int),k<=n1/\i=.int .i64 k/\n=.int .i64 z/\z=k+Dr.sumL (d.secs.take k)) (fun i _=>n1-(intOf i).toNat)
 case atStart=>exact⟨0,0,Nat.zero_le _,rfl,rfl,by simp[Dr.sumL]⟩
 case round =>
  obtain⟨k,z,hk,rfl,rfl,hz0⟩:=hrel
  have HZ:=aa hz0
  have hzp:0<=z:=by rw[hz0];omega
  clear hz0
  by_cases hlt:k<n1/\z<=9000
  ·obtain⟨hlt,hz⟩:=hlt
   rcases hc1 with h0|⟨b1,o1,rfl,hc1⟩
   ·omega
   obtain⟨x,hx⟩:=av L1.out hlt
   obtain⟨xa,xn,xc,hxm,_,hxs,hcell⟩:=hc1 k x hx
   have hb1:b1<w.heap.size:=World.block_lt_of_cell? _ _ hcell
   have HX:Hid (z+1+(xn:Int)=((k+1:Nat):Int)+Dr.sumL (d.secs.take (k+1))):=by show _=_;rw[SL.out k x hx,hxs.1,HZ.out];omega
   have hw1:IntKind.i64.wrap (z+1)=z+1:=by rw[IntKind.wrap_i64];omega
   have hw2:IntKind.i64.wrap (z+1+(xn:Int))=z+1+xn:=by have h9:=HSB.out x (List.mem_of_getElem? hx);have h8:=hxs.1;rw[IntKind.wrap_i64];omega
   have HZP:=aa hzp
   clear hzp
   clear hx hc1 hc2 hxs
   go_wp2
   go_round
   case rel=>exact⟨k+1,_,om,by go_num,rfl,HX.out⟩
   case measure=>simp[intOf];omega
  ·have HZP:=aa hzp
   have hexit:(k<n1/\9000<z)\/¬k<n1:=om
   clear hzp
   clear hlt hc1
   rcases hexit with ⟨g1,g2⟩|g1
   all_goals
    go_wp2
    go_loop [5,3] (fun i n=>∃(k2:Nat) (z2:Int),k2<=n2/\i=.int .i64 k2/\n=.int .i64 z2/\Hid (z<=z2)) (fun i _=>n2-(intOf i).toNat)
    case atStart=>exact⟨0,_,Nat.zero_le _,rfl,rfl,Int.le_refl z⟩
    case round =>
     obtain⟨k2,z2,hk2,rfl,rfl,HZZ⟩:=hrel
     by_cases hlt2:k2<n2/\z2<=9000
     ·obtain⟨hlt2,hz2⟩:=hlt2
      rcases hc2 with h0|⟨b2,o2,rfl,hc2⟩
      ·omega
      obtain⟨x,hx⟩:=av L2.out hlt2
      obtain⟨xa,xn,xc,hxm,_,hxs,hcell0,hcell⟩:=hc2 k2 x hx
      have hb1:b2<w.heap.size:=World.block_lt_of_cell? _ _ hcell
      have hw1:IntKind.i64.wrap (z2+1)=z2+1:=by have h7:=HZZ.out;have h6:=HZP.out;rw[IntKind.wrap_i64];omega
      have hw2:IntKind.i64.wrap (z2+1+(xn:Int))=z2+1+xn:=by have h9:=HPB.out x (List.mem_of_getElem? hx);have h8:=hxs.1;have h7:=HZZ.out;have h6:=HZP.out;rw[IntKind.wrap_i64];omega
      clear hx hc2 hxs hcell0
      go_wp2
      go_round
      case rel=>exact⟨k2+1,_,om,by go_num,rfl,by have h7:=HZZ.out;show z<=_;omega⟩
      case measure=>simp[intOf];omega
     ·have hexit:(k2<n2/\9000<z2)\/¬k2<n2:=om
      clear hlt2 hc2
      rcases hexit with ⟨g3,g4⟩|g3
      all_goals
       go_wp2
       go_ret
       exact⟨⟨decide (z2<=9000),rfl,fun hr=>by
        have h9:z2<=9000:=by simpa using hr
        have h8:=HZ.out
        have h7:=HZZ.out
        first
         | omega
         | (obtain rfl:k=n1:=om;rw[List.take_of_length_le (by rw[L1.out];exact Nat.le_refl _)]at h8;omega)⟩,hB0.out _⟩
end Go.Proofs.YtmflnpdmlfmcpaaGreatDoor
namespace Go.Proofs.YtmflnpdmlfmcpaaGreatDoor.Dr
open Go.RowKit Go.Shelf
def CG (rs:List (List UInt8))(jm:Int)(n1:Nat)(d:aj)(l:List ar):Prop:=kg rs jm=true/\n1+sumL d.secs<=9000/\j5 l=true
def zY (e:Ending)(rs:List (List UInt8))(jm:Int)(n1:Nat)(d:aj)(l:List ar):Prop:=∃r:Bool,e=.returned (.bool r)/\(r=true->CG rs jm n1 d l)
theorem zZ {Nz:Nat}(a:Option Addr)(n c:Nat)(rs:List (List UInt8))(jm js:Int)(a1:Option Addr)(n1 c1:Nat)(a2:Option Addr)(n2 c2:Nat)(d:aj)(la:Option Addr)(ln lc:Nat)(l:List ar)(w:World)(hn:n<=2000000)(h:Sl 1 (aN Nz) w a n rs)(hs:∀r ∈ rs,r.length<=2000000)
  (hd:bF Nz w a1 n1 c1 a2 n2 c2 d) (hds:∀b ∈ d.secs,b.length<=2000000) (hdp:∀x ∈ d.pend,x.2.length<=2000000) (hl:Sl 35 aq w la ln l) :
  Calls Tryz.prog 6 #[.agg #[.slice a n c,.int .i64 jm,.int .i64 js],.agg #[.slice a1 n1 c1,.slice a2 n2 c2,.int .i64 d.left,.bool d.stopped],.slice la ln lc] w fun e w'=>zY e rs jm n1 d l/\Below w.heap.size w w':=by
 have HJ:Hid (∀W,Below w.heap.size w W->Calls Tryz.prog 20 #[.agg #[.slice a n c,.int .i64 jm,.int .i64 js]] W fun e w'=>e=.returned (.bool (kg rs jm))/\Below W.heap.size W w'):=fun W hW=>zV a n c rs jm js W hn (h.below aN.keeps hW) hs
 have HD:Hid (∀W,Below w.heap.size w W->Calls Tryz.prog 21 #[.agg #[.slice a1 n1 c1,.slice a2 n2 c2,.int .i64 d.left,.bool d.stopped]] W fun e w'=>sh n1 d e/\Below W.heap.size W w'):=fun W hW=>zW a1 n1 c1 a2 n2 c2 d W (hd.below hW) hds hdp
 have HL:Hid (∀W,Below w.heap.size w W->Calls Tryz.prog 22 #[.slice la ln lc] W fun e w'=>e=.returned (.bool (j5 l))/\W=w'):=fun W hW=>tj la ln lc l W (hl.below aq.keeps hW)
 obtain⟨dl,hdl⟩:=zg d.left
 obtain⟨ds,hdst⟩:=zg d.stopped
 obtain⟨q1,hq1⟩:=zg (kg rs jm)
 obtain⟨q3,hq3⟩:=zg (j5 l)
 rw[<-hdl,<-hdst]at HD ⊢
 rw[<-hq1]at HJ
 rw[<-hq3]at HL
 have HQ1:=aa hq1
 have HQ3:=aa hq3
 clear hdl hdst hq1 hq3 hn h hs hd hds hdp hl
 go_enter Tryz.func6,Tryz.ntmps6
 go_upto_region 1 with (fail)
 obtain⟨w1,hw1⟩:=zg ((w.alloc (.cells #[.slice a n c,.int .i64 jm,.int .i64 js] 24)).alloc (.cells #[.slice a1 n1 c1,.slice a2 n2 c2,.int .i64 dl,.bool ds] 27))
 obtain⟨X3,hX3⟩:=zg w.heap.size
 obtain⟨X4,hX4⟩:=zg (w.heap.size+1)
 rw[<-hw1,<-hX4,<-hX3]
 have hB1:Below w.heap.size w w1:=by rw[hw1];exact((Below.refl _ w).alloc (Nat.le_refl _) _).alloc (by simp) _
 have h3:ac w1 X3 24 [.slice a n c,.int .i64 jm,.int .i64 js]:=by rw[hw1,hX3];exact aB _ (ak _ rfl)
 have h4:ac w1 X4 27 [.slice a1 n1 c1,.slice a2 n2 c2,.int .i64 dl,.bool ds]:=by rw[hw1,hX4];exact ak _ (by simp)
 clear hw1 hX3 hX4
 obtain⟨_,b0,b1,b2,_,_,_⟩:=aJ (Below.refl _ w1) h3
 have HB1:=aa hB1
 have H4:=aa h4
 clear hB1 h3 h4
 cases q1
 ·go_wp2_with (first|(go_at_call 20;refine(HJ.out w1 HB1.out).mono ?_;rintro e w2 ⟨rfl,hB2⟩))
  go_ret
  exact⟨⟨false,rfl,fun q=>by cases q⟩,HB1.out.trans (hB2.mono HB1.out.size)⟩
 go_wp2_with (first|(go_at_call 20;refine(HJ.out w1 HB1.out).mono ?_;rintro e w2 ⟨rfl,hB2⟩;have h4:=H4.out.below hB2 H4.out.lt;obtain⟨_,c0,c1',c2',c3,_,_⟩:=aF (Below.refl _ w2) h4;have HB2:=aa (HB1.out.trans (hB2.mono HB1.out.size));clear hB2 b0 b1 b2 H4 h4))
 refine(HD.out w2 HB2.out).mono ?_
 rintro e w3 ⟨⟨q2,rfl,hq2⟩,hB3⟩
 have HB3:=aa (HB2.out.trans (hB3.mono HB2.out.size))
 have HQ2:=aa hq2
 clear hB3 hq2 c0 c1' c2' c3
 cases q2
 ·go_wp2
  go_ret
  exact⟨⟨false,rfl,fun q=>by cases q⟩,HB3.out⟩
 go_wp2_with (first|(go_at_call 22;refine(HL.out w3 HB3.out).mono ?_;rintro e w4 ⟨rfl,rfl⟩))
 go_ret
 exact⟨⟨q3,rfl,fun q=>⟨HQ1.out.symm,HQ2.out (by first|rfl|trivial),by rw[<-HQ3.out];exact q⟩⟩,HB3.out⟩
end Go.Proofs.YtmflnpdmlfmcpaaGreatDoor.Dr
