/- Joined texts. -/
import Derived.Test.YtmflnpdmlfmcpaaGreatDoorJp04
namespace Go.Proofs.YtmflnpdmlfmcpaaGreatDoor
theorem j6 {d:aj}{i:Int}:d.canRead i=true ↔ d.runs=true/\0<=i/\i<d.secs.length:=by
 simp[aj.canRead,and_assoc]
def aj.more (d:aj)(i:Int)(b:List UInt8):aj:={ d with pend:=d.pend++[(i,gO b)] }
theorem xy {d:aj}{i:Int}{b:List UInt8}(hc:d.canRead i=true)(hb:b.length<=128)(hp:d.pend.length≠4096):(d.more i b).runs=true:=by
 obtain⟨hr,h0,h1⟩:=j6.1 hc
 obtain⟨hok,hst⟩:=fh hr
 have hl:=qP hb
 simp only[aj.okB,Bool.and_eq_true,decide_eq_true_eq,Bool.not_eq_true']at hok
 simp only[aj.runs,aj.okB,aj.more,hst,Bool.and_eq_true,decide_eq_true_eq,Bool.not_eq_true',List.length_append,List.length_singleton,List.any_append,hok]
 simp[gN,hl]
 omega
theorem A4 {d z:aj}(h:d.sync=(z,0)):d.runs=true/\¬(0<=d.left/\d.left<d.pend.length)/\z=⟨a9 d.secs d.pend,[],if 0<=d.left then d.left-d.pend.length else d.left,false⟩:=by
 unfold aj.sync at h
 split at h
 ·rename_i hr
  split at h
  ·simp at h
  ·rename_i hf
   simp at h
   exact⟨hr,hf,h.symm⟩
 ·simp at h
theorem xz {d z:aj}(h:d.sync=(z,0)):z.runs=true/\z.secs.length=d.secs.length/\z.pend=[]:=by
 obtain⟨hr,hf,rfl⟩:=A4 h
 obtain⟨hok,hst⟩:=fh hr
 have hbad:=pd hok
 have hbs:=qR hok
 have hl:=ng hok
 have hb:=ls hok
 refine⟨?_,fq _ _,rfl⟩
 have gen:∀(l:List (Int × List UInt8)) (ss:List (List UInt8)),(∀y ∈ l,y.2.length=128)->(∀y ∈ ss,y.length=128)->∀y ∈ a9 ss l,y.length=128:=by
  intro l
  induction l with
  | nil=>intro ss _ h;exact h
  | cons q l ih =>
   intro ss h1 h2
   refine ih _ (fun y hy=>h1 y (List.mem_cons_of_mem _ hy)) (fun y hy => ?_)
   rcases List.mem_or_eq_of_mem_set hy with h|h
   ·exact h2 y h
   ·rw[h];exact h1 q List.mem_cons_self
 have hs:(a9 d.secs d.pend).any eq=false:=by
  rw[List.any_eq_false]
  intro y hy
  have:=gen d.pend d.secs (fun y hy=>by obtain⟨i,hi⟩:=List.mem_iff_getElem?.1 hy;exact(hbad i y hi).2.2) (fun y hy=>by obtain⟨i,hi⟩:=List.mem_iff_getElem?.1 hy;exact hbs i y hi) y hy
  simp[eq,this]
 simp only[aj.runs,aj.okB,hs,fq,Bool.and_eq_true,decide_eq_true_eq]
 simp
 split<;>omega
end Go.Proofs.YtmflnpdmlfmcpaaGreatDoor
