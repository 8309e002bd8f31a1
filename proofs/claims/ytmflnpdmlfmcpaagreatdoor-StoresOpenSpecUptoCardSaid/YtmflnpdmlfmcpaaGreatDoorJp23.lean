/- Joined texts. -/
import Derived.Test.YtmflnpdmlfmcpaaGreatDoorJp13
namespace Go.Proofs.YtmflnpdmlfmcpaaGreatDoor.Dr
open Go.RowKit
theorem lu (a:Option Addr)(n c:Nat)(b:List UInt8)(w:World)(hn:n<=1000000)(h:Sl 1 ai w a n b) :
  Calls Tryz.prog 72 #[.slice a n c] w fun e w'=>(∃va vc,e=.returned (.slice va n vc)/\w'.ownsRow w.heap.size 5 1 (.slice va n vc) n (af b))/\Below w.heap.size w w':=by
 obtain⟨hl,h0,hc,h1⟩:=bV h
 have HL:=aa h.len
 clear h
 cases a with
 | none =>
  obtain rfl:=h0 rfl
  have he:∀w:World,(binOp .eql 40 (.slice none 0 c) (.slice none 0 0)).run Tryz.prog w=.ok (.bool true) w:=fun _=>by kernel_rfl
  clear hl h0 hc h1
  go_enter Tryz.func72,Tryz.ntmps72
  go_wp2
  go_ret
  exact⟨⟨_,_,rfl,by rw[List.eq_nil_of_length_eq_zero HL.out];exact World.ownsRow_nil _ _ _ _⟩,Below.refl _ _⟩
 | some ad =>
  have he:∀w:World,(binOp .eql 40 (.slice (some ad) n c) (.slice none 0 0)).run Tryz.prog w=.ok (.bool false) w:=fun _=>by kernel_rfl
  obtain⟨i0,hi,hz0,hz1,hz2⟩:=info_parts jv
  obtain⟨ws,hws⟩:=zg (af b)
  rw[<-hws]at hl hc h1 ⊢
  have HW:=aa hl
  have H1:=aa h1
  have hc1:Hid (∀x,∀ad',some ad=some ad'->∀j u,ws[j]? = some u->(w.alloc x).cell? (ad'.add j)=some u):=fun x ad' e j u hu=>by cases e;exact ag ((Below.refl _ _).alloc (Nat.le_refl _) _) (hc ad rfl j u hu)
  clear hc h0 hws hl h1
  go_enter Tryz.func72,Tryz.ntmps72
  go_wp2_with (at_builtin;refine aD rfl (.tmp 5) (.tmp 6) 40 rfl w.heap.size 5 i0 (.int .u8 0) 1 1 Tryz.underlying40 hi hz0 hz1 hz2 rfl (by decide) (.slice (some ⟨w.heap.size,0,none⟩) 0 0) 0 [] rfl ?c0 (some ad) n c ws rfl HW.out (fun h=>by cases h) (hc1.out _) H1.out ?c3 ?c4 ?c5 ?_;rotate_right;intro va vc w2 hown hgrow)
  case c0=>exact⟨rfl,.inr ⟨w.heap.size,0,#[],rfl,Nat.le_refl _,ak _ rfl,Nat.le_refl _,by unfold maxLen;omega,rfl,rfl⟩⟩
  case c3=>unfold maxLen;omega
  case c4=>omega
  case c5=>simp
  go_ret
  rw[Nat.zero_add,List.nil_append]at hown
  exact⟨⟨_,_,rfl,hown⟩,((Below.refl _ w).alloc (Nat.le_refl _) _).grown hgrow (by simp) (fun k e=>by cases e;exact Nat.le_refl _)⟩
end Go.Proofs.YtmflnpdmlfmcpaaGreatDoor.Dr
