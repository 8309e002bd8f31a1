/- Joined texts. -/
import Derived.Test.YtmflnpdmlfmcpaaGreatDoorJp11
import Derived.Outline
import Derived.Laws.Rows
import Derived.Laws.Tables
import Derived.Deep.DeepFit
import Derived.Lib.ConvBytes
import Derived.Maps.AppendAt
import Derived.Maps.Range
import Derived.Lib.AppendStr
set_option maxRecDepth 100000
set_option maxHeartbeats 8000000
namespace Go.Proofs.YtmflnpdmlfmcpaaGreatDoor.Dr
open Go.RowKit
def wv (x:aX):Int:=(x.toNat:Int)
theorem B8 (x:aX):wv x=(x.toNat:Int):=rfl
theorem Cv (x:aX):0<=wv x:=by unfold wv;omega
theorem B9 (x:aX):wv x<4294967296:=by have:=x.isLt;unfold wv;omega
theorem iu (x y:aX):bits .xor .u32 (wv x) (wv y)=wv (x ^^^ y):=by
 unfold wv;rw[u32_xor_nat _ _ x.isLt y.isLt,BitVec.toNat_xor]
theorem qC (x y:aX):bits .and .u32 (wv x) (wv y)=wv (x &&& y):=by
 unfold wv;rw[u32_and_nat _ _ x.isLt y.isLt,BitVec.toNat_and]
theorem uk (x y:aX):bits .or .u32 (wv x) (wv y)=wv (x ||| y):=by
 unfold wv;rw[u32_or_nat _ _ x.isLt y.isLt,BitVec.toNat_or]
theorem qD (x y:aX):(wv x+wv y)%4294967296=wv (x+y):=by
 unfold wv;rw[BitVec.toNat_add];omega
theorem mh (x:aX)(n:Nat):(wv x/((2 ^ n:Nat):Int))=wv (x >>> n):=by
 unfold wv;rw[BitVec.toNat_ushiftRight,Nat.shiftRight_eq_div_pow];rfl
theorem Aa (x:aX)(n:Nat):(wv x*((2 ^ n:Nat):Int))%4294967296=wv (x <<< n):=by
 unfold wv;rw[BitVec.toNat_shiftLeft,Nat.shiftLeft_eq];rfl
theorem iv (x:aX)(n:Nat):bits .or .u32 (wv x*((2 ^ (32-n):Nat):Int)%4294967296) (wv x/((2 ^ n:Nat):Int))=wv (aE x n):=by
 rw[Aa,mh,uk,BitVec.or_comm];rfl
theorem gq (x:aX)(n:Nat):bits .or .u32 (wv x/((2 ^ n:Nat):Int)) (wv x*((2 ^ (32-n):Nat):Int)%4294967296)=wv (aE x n):=by
 rw[Aa,mh,uk];rfl
theorem Cw (x:aX)(w:World) :
  Calls Tryz.prog 140 #[.int .u32 (wv x),.int .i64 (-2)] w fun e w'=>e=.returned (.int .u32 (wv (aE x 2)))/\w=w':=by
 have e1:bits .and .u64 (IntKind.u64.wrap (-2)) 31=30:=by decide +kernel
 have e2:bits .or .u32 (wv x*1073741824%4294967296) (wv x/4)=(wv (aE x 2)):=iv x 2
 go_enter Tryz.func140,Tryz.ntmps140
 go_wp2
 go_ret
 exact⟨rfl,rfl⟩
theorem Cx (x:aX)(w:World) :
  Calls Tryz.prog 140 #[.int .u32 (wv x),.int .i64 (-6)] w fun e w'=>e=.returned (.int .u32 (wv (aE x 6)))/\w=w':=by
 have e1:bits .and .u64 (IntKind.u64.wrap (-6)) 31=26:=by decide +kernel
 have e2:bits .or .u32 (wv x*67108864%4294967296) (wv x/64)=(wv (aE x 6)):=iv x 6
 go_enter Tryz.func140,Tryz.ntmps140
 go_wp2
 go_ret
 exact⟨rfl,rfl⟩
theorem Cy (x:aX)(w:World) :
  Calls Tryz.prog 140 #[.int .u32 (wv x),.int .i64 (-7)] w fun e w'=>e=.returned (.int .u32 (wv (aE x 7)))/\w=w':=by
 have e1:bits .and .u64 (IntKind.u64.wrap (-7)) 31=25:=by decide +kernel
 have e2:bits .or .u32 (wv x*33554432%4294967296) (wv x/128)=(wv (aE x 7)):=iv x 7
 go_enter Tryz.func140,Tryz.ntmps140
 go_wp2
 go_ret
 exact⟨rfl,rfl⟩
theorem Ca (x:aX)(w:World) :
  Calls Tryz.prog 140 #[.int .u32 (wv x),.int .i64 (-11)] w fun e w'=>e=.returned (.int .u32 (wv (aE x 11)))/\w=w':=by
 have e1:bits .and .u64 (IntKind.u64.wrap (-11)) 31=21:=by decide +kernel
 have e2:bits .or .u32 (wv x*2097152%4294967296) (wv x/2048)=(wv (aE x 11)):=iv x 11
 go_enter Tryz.func140,Tryz.ntmps140
 go_wp2
 go_ret
 exact⟨rfl,rfl⟩
theorem Cb (x:aX)(w:World) :
  Calls Tryz.prog 140 #[.int .u32 (wv x),.int .i64 (-13)] w fun e w'=>e=.returned (.int .u32 (wv (aE x 13)))/\w=w':=by
 have e1:bits .and .u64 (IntKind.u64.wrap (-13)) 31=19:=by decide +kernel
 have e2:bits .or .u32 (wv x*524288%4294967296) (wv x/8192)=(wv (aE x 13)):=iv x 13
 go_enter Tryz.func140,Tryz.ntmps140
 go_wp2
 go_ret
 exact⟨rfl,rfl⟩
theorem Cc (x:aX)(w:World) :
  Calls Tryz.prog 140 #[.int .u32 (wv x),.int .i64 (-17)] w fun e w'=>e=.returned (.int .u32 (wv (aE x 17)))/\w=w':=by
 have e1:bits .and .u64 (IntKind.u64.wrap (-17)) 31=15:=by decide +kernel
 have e2:bits .or .u32 (wv x*32768%4294967296) (wv x/131072)=(wv (aE x 17)):=iv x 17
 go_enter Tryz.func140,Tryz.ntmps140
 go_wp2
 go_ret
 exact⟨rfl,rfl⟩
theorem Cd (x:aX)(w:World) :
  Calls Tryz.prog 140 #[.int .u32 (wv x),.int .i64 (-18)] w fun e w'=>e=.returned (.int .u32 (wv (aE x 18)))/\w=w':=by
 have e1:bits .and .u64 (IntKind.u64.wrap (-18)) 31=14:=by decide +kernel
 have e2:bits .or .u32 (wv x*16384%4294967296) (wv x/262144)=(wv (aE x 18)):=iv x 18
 go_enter Tryz.func140,Tryz.ntmps140
 go_wp2
 go_ret
 exact⟨rfl,rfl⟩
theorem Ce (x:aX)(w:World) :
  Calls Tryz.prog 140 #[.int .u32 (wv x),.int .i64 (-19)] w fun e w'=>e=.returned (.int .u32 (wv (aE x 19)))/\w=w':=by
 have e1:bits .and .u64 (IntKind.u64.wrap (-19)) 31=13:=by decide +kernel
 have e2:bits .or .u32 (wv x*8192%4294967296) (wv x/524288)=(wv (aE x 19)):=iv x 19
 go_enter Tryz.func140,Tryz.ntmps140
 go_wp2
 go_ret
 exact⟨rfl,rfl⟩
theorem Cf (x:aX)(w:World) :
  Calls Tryz.prog 140 #[.int .u32 (wv x),.int .i64 (-22)] w fun e w'=>e=.returned (.int .u32 (wv (aE x 22)))/\w=w':=by
 have e1:bits .and .u64 (IntKind.u64.wrap (-22)) 31=10:=by decide +kernel
 have e2:bits .or .u32 (wv x*1024%4294967296) (wv x/4194304)=(wv (aE x 22)):=iv x 22
 go_enter Tryz.func140,Tryz.ntmps140
 go_wp2
 go_ret
 exact⟨rfl,rfl⟩
theorem Cg (x:aX)(w:World) :
  Calls Tryz.prog 140 #[.int .u32 (wv x),.int .i64 (-25)] w fun e w'=>e=.returned (.int .u32 (wv (aE x 25)))/\w=w':=by
 have e1:bits .and .u64 (IntKind.u64.wrap (-25)) 31=7:=by decide +kernel
 have e2:bits .or .u32 (wv x*128%4294967296) (wv x/33554432)=(wv (aE x 25)):=iv x 25
 go_enter Tryz.func140,Tryz.ntmps140
 go_wp2
 go_ret
 exact⟨rfl,rfl⟩
theorem yq (x:aX)(w:World) :
  Calls Tryz.prog 141 #[.int .u32 (wv x),.int .i64 6,.int .i64 11,.int .i64 25] w fun e w'=>e=.returned (.int .u32 (wv (i8 x 6 11 25)))/\w=w':=by
 have hxor:=iu
 go_enter Tryz.func141,Tryz.ntmps141
 go_wp2_with fail
 refine(Cx _ _).mono ?_
 rintro e w' ⟨rfl,rfl⟩
 go_wp2_with fail
 refine(Ca _ _).mono ?_
 rintro e w' ⟨rfl,rfl⟩
 go_wp2_with fail
 refine(Cg _ _).mono ?_
 rintro e w' ⟨rfl,rfl⟩
 go_wp2
 go_ret
 exact⟨rfl,rfl⟩
theorem yr (x:aX)(w:World) :
  Calls Tryz.prog 141 #[.int .u32 (wv x),.int .i64 2,.int .i64 13,.int .i64 22] w fun e w'=>e=.returned (.int .u32 (wv (i8 x 2 13 22)))/\w=w':=by
 have hxor:=iu
 go_enter Tryz.func141,Tryz.ntmps141
 go_wp2_with fail
 refine(Cw _ _).mono ?_
 rintro e w' ⟨rfl,rfl⟩
 go_wp2_with fail
 refine(Cb _ _).mono ?_
 rintro e w' ⟨rfl,rfl⟩
 go_wp2_with fail
 refine(Cf _ _).mono ?_
 rintro e w' ⟨rfl,rfl⟩
 go_wp2
 go_ret
 exact⟨rfl,rfl⟩
def kM (l:List UInt8):Nat:=l.foldl (fun n b=>n*256+b.toNat) 0
theorem vV (l:List UInt8)(k:Nat)(b:UInt8)(h:l[k]? = some b):kM (l.take (k+1))=kM (l.take k)*256+b.toNat:=by
 unfold kM
 rw[cp l k b h,List.foldl_append]
 rfl
theorem As (l:List UInt8)(k:Nat)(hk:k<=3)(hl:k<=l.length):kM (l.take k)<16777216:=by
 have gen:∀(l:List UInt8) (z m:Nat),z<256 ^ m->l.foldl (fun n b=>n*256+b.toNat) z<256 ^ (m+l.length):=by
  intro l
  induction l with
  | nil=>intro z m h;exact h
  | cons b l ih =>
   intro z m h
   have hb:=b.toNat_lt
   have:=ih (z*256+b.toNat) (m+1) (by rw[Nat.pow_succ];omega)
   rw[List.length_cons,show m+(l.length+1)=m+1+l.length by omega]
   exact this
 have h1:=gen (l.take k) 0 0 (by simp)
 have h2:256 ^ (0+(l.take k).length)<=256 ^ 3:=Nat.pow_le_pow_right om (by simp;omega)
 unfold kM
 omega
theorem qN (n b:Nat)(hb:b<256):n*256 ||| b=n*256+b:=by
 rw[show n*256=n <<< 8 by rw[Nat.shiftLeft_eq],Nat.shiftLeft_add_eq_or_of_lt (by omega:b<2 ^ 8)]
theorem vW (a b c d:UInt8):kM [a,b,c,d]=(gR a b c d).toNat:=by
 rw[mJ];simp[kM]
theorem yt (b off n c:Nat)(x0 x1 x2 x3:UInt8)(w:World)(hn:4<=n)(hc:n<=c)
  (h0:w.cell? ⟨b,off,none⟩=some (.int .u8 x0.toNat)) (h1:w.cell? ⟨b,off+1,none⟩=some (.int .u8 x1.toNat)) (h2:w.cell? ⟨b,off+2,none⟩=some (.int .u8 x2.toNat)) (h3:w.cell? ⟨b,off+3,none⟩=some (.int .u8 x3.toNat)) :
  Calls Tryz.prog 139 #[.slice (some ⟨b,off,none⟩) n c] w fun e w'=>e=.returned (.int .u32 (wv (gR x0 x1 x2 x3)))/\w=w':=by
 have hcells:∀k x,[x0,x1,x2,x3][k]? = some x->w.cell? ⟨b,off+k,none⟩=some (.int .u8 x.toNat):=by
  intro k x hx
  match k,hx with
  | 0,hx=>obtain rfl:=Option.some.inj hx;exact h0
  | 1,hx=>obtain rfl:=Option.some.inj hx;exact h1
  | 2,hx=>obtain rfl:=Option.some.inj hx;exact h2
  | 3,hx=>obtain rfl:=Option.some.inj hx;exact h3
  | k+4,hx=>simp at hx
 have HW:=aa (vW x0 x1 x2 x3)
 obtain⟨l,hl⟩:=zg ([x0,x1,x2,x3])
 have hll:l.length=4:=by rw[hl];rfl
 rw[<-hl]at hcells HW
 have HL:=aa hll
 have HC:=aa hcells
 clear hl hll hcells h0 h1 h2 h3
 go_enter Tryz.func139,Tryz.ntmps139
 go_wp2
 go_loop [2,8] (fun z i=>∃k:Nat,k<=4/\i=.int .i64 k/\z=.int .u32 (kM (l.take k))) (fun _ i=>4-(intOf i).toNat)
 case atStart=>exact⟨0,om,rfl,rfl⟩
 case round =>
  obtain⟨k,hk,rfl,rfl⟩:=hrel
  by_cases hlt:k<4
  ·obtain⟨x,hx⟩:=av HL.out hlt
   have hcell:=HC.out k x hx
   have hu:=vV l k x hx
   have hs:=As l k om (by have:=HL.out;omega)
   obtain⟨u,hu0⟩:=zg (kM (l.take k))
   rw[<-hu0]at hu hs ⊢
   have HU:=aa hu
   have hxl:=x.toNat_lt
   have w1:IntKind.u32.wrap (x.toNat:Int)=(x.toNat:Int):=by rw[IntKind.wrap_u32];omega
   have w2:(u:Int)*256%4294967296=((u*256:Nat):Int):=om
   have w3:bits .or .u32 ((u:Int)*256) (x.toNat:Int)=((u*256+x.toNat:Nat):Int):=by
    rw[show (u:Int)*256=((u*256:Nat):Int) by omega,u32_or_nat _ _ om om,qN _ _ hxl]
   clear hx hu hu0
   go_wp2
   go_round
   case rel=>exact⟨k+1,om,by go_num,by rw[HU.out];go_num⟩
   case measure=>simp[intOf];omega
  ·obtain rfl:k=4:=om
   go_wp2
   go_ret
   exact⟨bY (by rw[List.take_of_length_le (by have:=HL.out;omega),HW.out,B8]),rfl⟩
def cY (L:List UInt8)(off k n t:Nat):List UInt8:=L.take (off+(k-t))++be t n++L.drop (off+k)
theorem lq (L:List UInt8)(off k n:Nat):cY L off k n 0=L:=by simp[cY,be]
theorem nc (L:List UInt8)(off k n t:Nat)(h:t<k)(hL:off+k<=L.length):(cY L off k n t).set (off+(k-t-1)) (UInt8.ofNat (n/256 ^ t%256))=cY L off k n (t+1):=by
 unfold cY
 have e:off+(k-t)=(off+(k-(t+1)))+1:=om
 obtain⟨b,hb⟩:∃b,L[off+(k-(t+1))]? = some b:=⟨_,List.getElem?_eq_getElem om⟩
 rw[e,cp L _ b hb,List.append_assoc,List.append_assoc,List.set_append_right _ _ (by simp;omega)]
 have e2:off+(k-t-1)-(List.take (off+(k-(t+1))) L).length=0:=by simp;omega
 rw[e2]
 simp[be]
theorem jR (L:List UInt8)(off k n t:Nat)(h:t<=k)(hL:off+k<=L.length):(cY L off k n t).length=L.length:=by
 simp[cY,eN]
 omega
theorem ig (g off k c n:Nat)(ty:TypeId)(L:List UInt8)(w:World)(_hn:n<18446744073709551616)(hk1:1<=k)(hk:k<=8)(hL:off+k<=L.length)(h:ac w g ty (af L)) :
  Calls Tryz.prog 118 #[.slice (some ⟨g,off,none⟩) k c,.int .u64 n] w fun e w'=>(∃v,e=.returned v)/\ac w' g ty (af (cY L off k n k))/\Below g w w'/\w'.heap.size=w.heap.size/\∀q,q≠g->w'.heap[q]? = w.heap[q]? := by
 go_enter Tryz.func118,Tryz.ntmps118
 go_wp2
 go_loopw [7] (fun s7 wr=>∃t:Nat,t<=k/\s7=.int .i64 t/\ac wr g ty (af (cY L off k n t))/\Below g w wr/\wr.heap.size=w.heap.size/\∀q,q≠g->wr.heap[q]? = w.heap[q]?) (fun s7 _=>k-(intOf s7).toNat)
 case atStart=>exact⟨0,Nat.zero_le _,rfl,by rw[lq];exact h,Below.refl _ _,rfl,fun _ _=>rfl⟩
 case round =>
  obtain⟨t,ht,rfl,hrow,hB,hsz,hoth⟩:=hrel
  by_cases hlt:t<k
  ·obtain⟨i,hi⟩:∃i:Nat,i=k-t-1:=⟨_,rfl⟩
   have hiI:(k:Int)-1-(t:Int)=(i:Int):=om
   have hset:=nc L off k n t hlt hL
   rw[<-hi]at hset
   have hlen:=jR L off k n t ht hL
   obtain⟨y,hy⟩:=av hlen (show off+i<L.length by omega)
   have hc0:wr.cell? ⟨g,off+i,none⟩=some (.int .u8 y.toNat):=(ac.cell hrow _).trans (by simp only[af,List.getElem?_map,hy];rfl)
   have hfz:wr.frozen? ⟨g,off+i,none⟩=false:=frozen_of_row _ _ _ _ _ hrow
   have k0:(0:Int)<=(i:Int):=om
   have k1:(i:Int)<(k:Int):=om
   have k2:(t:Int)<(k:Int):=om
   have w1:IntKind.i64.wrap (8*(t:Int))=8*(t:Int):=by rw[IntKind.wrap_i64];omega
   have hv:(n:Int)/2 ^ (8*t)%256=((n/256 ^ t%256:Nat):Int):=by
    have h2:(2:Nat) ^ (8*t)=256 ^ t:=by rw[Nat.pow_mul]
    have h3:(2:Int) ^ (8*t)=((2 ^ (8*t):Nat):Int):=by simp
    rw[h3,h2]
    first|rfl|simp
   have hnew:ac (wr.setCell ⟨g,off+i,none⟩ (.int .u8 ((n:Int)/2 ^ (8*t)%256))) g ty (af (cY L off k n (t+1))):=by
    have h1:=ax hrow (off+i) (.int .u8 ((n:Int)/2 ^ (8*t)%256))
    unfold ac
    rw[h1,<-hset,hv]
    have h2:(UInt8.ofNat (n/256 ^ t%256)).toNat=n/256 ^ t%256:=by rw[UInt8.toNat_ofNat'];omega
    simp[af,List.map_set,h2]
   have HNEW:=aa hnew
   have hBn:=hB.setCell (p:=⟨g,off+i,none⟩) (Nat.le_refl _) (.int .u8 ((n:Int)/2 ^ (8*t)%256))
   clear hi hset hlen hy hv hnew
   go_wp2
   exact⟨⟨t+1,om,by simp,HNEW.out,hBn,by simpa using hsz,fun q hq=>(Below.heap_setCell _ _ _ _ hq).trans (hoth q hq)⟩,by simp[intOf];omega⟩
  ·obtain rfl:t=k:=om
   go_wp2
   refine bodyPost_end (by simp[results,Tryz.results118,go_sem];try rfl) rfl ?_
   exact⟨⟨_,rfl⟩,hrow,hB,hsz,hoth⟩
theorem fR {P:Program}{f:FuncId}{args:Array Value}{w:World}{v:Value}(h:Calls P f args w fun e w'=>e=.returned v/\w=w'):Calls P f args w (fun e w'=>e=.returned v/\w'=w):=
 h.mono fun _ _ ⟨h1,h2⟩=>⟨h1,h2.symm⟩
theorem gT (x y:aX):IntKind.u32.wrap (wv x+wv y)=wv (x+y):=by rw[IntKind.wrap_u32,qD]
theorem pg {P:Program}{f:FuncId}{args:Array Value}{w:World}{a n:Nat}{v:Value}
  (h:Calls P f args (w.drewN (a+n)) fun e w'=>e=.returned v/\w'=w.drewN (a+n)) :
  Calls P f args (w.drewN (a+n)) fun e w''=>e=.returned v/\∃m,w''=w.drewN (a+m):=
 h.mono fun _ _ ⟨he,hm⟩=>⟨he,n,hm⟩
def wl (n:Nat)(l:List aX):List Value:=(l.map fun x=>.int .u32 (wv x))++List.replicate (n-l.length) (.int .u32 0)
theorem fy {n i:Nat}{l:List aX}(h:i<l.length):(wl n l)[i]? = some (.int .u32 (wv (l.getD i 0))):=by
 unfold wl
 rw[List.getElem?_append_left (by simpa using h),List.getElem?_map,List.getElem?_eq_getElem h]
 simp[List.getD_eq_getElem?_getD,List.getElem?_eq_getElem h]
theorem Bw {n:Nat}{l:List aX}(x:aX)(h:l.length<n):(wl n l).set l.length (.int .u32 (wv x))=wl n (l++[x]):=by
 unfold wl
 rw[List.set_append_right _ _ (by simp),List.map_append,List.length_append,List.append_assoc]
 congr 1
 simp only[List.length_map,Nat.sub_self,List.length_singleton,List.map_cons,List.map_nil,List.singleton_append]
 rw[show n-l.length=(n-(l.length+1))+1 by omega,List.replicate_succ,zC]
theorem mi {n i:Nat}{l:List aX}(h:l.length<=i)(hi:i<n):(wl n l)[i]? = some (.int .u32 0):=by
 unfold wl
 rw[List.getElem?_append_right (by simpa using h),List.getElem?_replicate,if_pos (by simp;omega)]
theorem nm {w:World}{g n:Nat}{t:TypeId}{l:List aX}(h:ac w g t (wl n l))(x:aX)(hl:l.length<n)(i:Nat)(hi:i=l.length):ac (w.setCell ⟨g,i,none⟩ (.int .u32 (wv x))) g t (wl n (l++[x])):=by
 subst hi
 unfold ac
 rw[ax h,<-Bw x hl]
 simp
def db (s:S8):List Value:=[.int .u32 (wv s.a),.int .u32 (wv s.b),.int .u32 (wv s.c),.int .u32 (wv s.d),.int .u32 (wv s.e),.int .u32 (wv s.f),.int .u32 (wv s.g),.int .u32 (wv s.h)]
theorem qE {w:World}{g:Nat}{t:TypeId}{a0 a1 a2 a3 a4 a5 a6 a7:Value}(h:ac w g t [a0,a1,a2,a3,a4,a5,a6,a7]) :
  w.cell? ⟨g,0,none⟩=some a0/\w.cell? ⟨g,1,none⟩=some a1/\w.cell? ⟨g,2,none⟩=some a2/\w.cell? ⟨g,3,none⟩=some a3/\w.cell? ⟨g,4,none⟩=some a4/\w.cell? ⟨g,5,none⟩=some a5/\w.cell? ⟨g,6,none⟩=some a6/\w.cell? ⟨g,7,none⟩=some a7:=
 ⟨ac.cell h 0,ac.cell h 1,ac.cell h 2,ac.cell h 3,ac.cell h 4,ac.cell h 5,ac.cell h 6,ac.cell h 7⟩
theorem Ch : (Tryz.prog.info? 117).map (·.size)=some 1:=kr
theorem Cz (k w:aX)(v:S8):v.h+i8 v.e 6 11 25+(v.g ^^^ (v.e &&& (v.f ^^^ v.g)))+k+w=pM k w v:=by rw[B7];rfl
theorem CA (v:S8):i8 v.a 2 13 22+((v.a &&& v.b) ||| (v.c &&& (v.a ||| v.b)))=qM v:=by rw[Bu];rfl
def dv (s:S8):List aX:=[s.a,s.b,s.c,s.d,s.e,s.f,s.g,s.h]
theorem ph (s:S8){i:Nat}(h:i<8):(db s)[i]? = some (.int .u32 (wv ((dv s).getD i 0))):=by
 match i,h with
 | 0,_=>rfl
 | 1,_=>rfl
 | 2,_=>rfl
 | 3,_=>rfl
 | 4,_=>rfl
 | 5,_=>rfl
 | 6,_=>rfl
 | 7,_=>rfl
def kN (s v:S8)(i:Nat):List Value:=(List.range 8).map fun j=>.int .u32 (wv (if j<i then (dv s).getD j 0+(dv v).getD j 0 else (dv s).getD j 0))
theorem vX (s v:S8):kN s v 0=db s:=rfl
theorem yu (s v:S8):kN s v 8=db (uf s v):=rfl
theorem yv (s v:S8){i:Nat}(h:i<8):(kN s v i)[i]? = some (.int .u32 (wv ((dv s).getD i 0))):=by
 unfold kN
 rw[List.getElem?_map,List.getElem?_range h]
 simp
theorem yw (s v:S8){i:Nat}(h:i<8):(kN s v i).set i (.int .u32 (wv ((dv s).getD i 0+(dv v).getD i 0)))=kN s v (i+1):=by
 match i,h with
 | 0,_=>rfl
 | 1,_=>rfl
 | 2,_=>rfl
 | 3,_=>rfl
 | 4,_=>rfl
 | 5,_=>rfl
 | 6,_=>rfl
 | 7,_=>rfl
def n9 (w:World):Prop:=(∀t,t<64->w.cell? ⟨1,t,none⟩=some (.int .u32 (wv (Kl.getD t 0)))) 
theorem n9.below {w w':World}(h:n9 w)(hb:Below w.heap.size w w'):n9 w':=fun t ht=>ag hb (h t ht)
theorem ob (X b off n c:Nat)(s:S8)(l:List UInt8)(w:World)(hn:64<=n)(hc:n<=c)(hl:64<=l.length)(hK:n9 w)(hX:ac w X 150 (db s))(_hbX:b≠X)(_h1X:1≠X)
  (hb:∀i x,i<64->l[i]? = some x->w.cell? ⟨b,off+i,none⟩=some (.int .u8 x.toNat)) :
  Calls Tryz.prog 117 #[.pointer (some ⟨X,0,none⟩),.slice (some ⟨b,off,none⟩) n c] w fun e w'=>(∃v,e=.returned v)/\ac w' X 150 (db (gS s l))/\w.grownBy w' (some X):=by
 have HB:=aa hb
 have HX:=aa hX
 have HK:=aa hK
 clear hb hX hK
 go_enter Tryz.func117,Tryz.ntmps117
 go_wp2
 obtain⟨A,hA⟩:=zg w.heap.size
 obtain⟨w1,hw1⟩:=zg (w.alloc (.cells zG 171))
 rw[<-hw1,<-hA]
 have hrow:ac w1 A 171 (wl 64 (dD l 0)):=by rw[hw1,hA];exact ak _ rfl
 have hB1:Below w.heap.size w w1:=by rw[hw1];exact(Below.refl _ w).alloc (Nat.le_refl _) _
 have hs1:w1.heap.size=A+1:=by rw[hw1,hA];simp
 have HROW:=aa hrow
 have HA:=aa hA
 clear hw1 hA hrow
 go_loopw [14] (fun s14 wr=>∃k:Nat,k<=16/\s14=.int .i64 k/\ac wr A 171 (wl 64 (dD l k))/\Below w.heap.size w wr/\wr.heap.size=A+1) (fun s14 _=>16-(intOf s14).toNat)
 case atStart=>exact⟨0,om,rfl,HROW.out,hB1,hs1⟩
 case round =>
  clear HROW hB1 hs1
  obtain⟨k,hk,rfl,hrow,hB,hsz⟩:=hrel
  by_cases hlt:k<16
  ·obtain⟨x0,e0⟩:∃x,l[4*k]? = some x:=⟨_,List.getElem?_eq_getElem om⟩
   obtain⟨x1,e1⟩:∃x,l[4*k+1]? = some x:=⟨_,List.getElem?_eq_getElem om⟩
   obtain⟨x2,e2⟩:∃x,l[4*k+2]? = some x:=⟨_,List.getElem?_eq_getElem om⟩
   obtain⟨x3,e3⟩:∃x,l[4*k+3]? = some x:=⟨_,List.getElem?_eq_getElem om⟩
   have c0:=ag hB (HB.out _ _ om e0)
   have c1:=ag hB (HB.out _ _ om e1)
   have c2:=ag hB (HB.out _ _ om e2)
   have c3:=ag hB (HB.out _ _ om e3)
   have hwd:gR x0 x1 x2 x3=gl l k:=by simp[gl,List.getD_eq_getElem?_getD,e0,e1,e2,e3]
   have HWD:=aa hwd
   have hst:=nm hrow (gR x0 x1 x2 x3) (by rw[ex];omega) k (by rw[ex])
   rw[hwd,<-n7,<-hwd]at hst
   have HST:=aa hst
   have hBs:=hB.setCell (p:=⟨A,k,none⟩) (by show _<=A;have:=HA.out;omega) (.int .u32 (wv (gR x0 x1 x2 x3)))
   have hcA:wr.cell? ⟨A,k,none⟩=some (.int .u32 0):=(ac.cell hrow _).trans (mi (by rw[ex];omega) om)
   have hfz:wr.frozen? ⟨A,k,none⟩=false:=frozen_of_row _ _ _ _ _ hrow
   clear hrow hwd hst e0 e1 e2 e3
   have k0:(0:Int)<=4*(k:Int):=om
   have k1:4*(k:Int)<=(n:Int):=om
   have k2:¬(c:Int)=4*(k:Int):=om
   go_wp2_with fail
   refine(yt b (off+4*k) (n-4*k) (c-4*k) x0 x1 x2 x3 _ om om (by first|exact c0|simpa using c0) (by rw[Nat.add_assoc];exact c1) (by rw[Nat.add_assoc];exact c2) (by rw[Nat.add_assoc];exact c3)).mono ?_
   rintro e w2 ⟨rfl,rfl⟩
   clear c0 c1 c2 c3 k0 k1 k2
   go_wp2
   go_roundw
   case rel=>exact⟨k+1,om,by go_num,HST.out,hBs,by simpa using hsz⟩
   case measure=>simp[intOf];omega
  ·obtain rfl:k=16:=om
   clear hlt
   rw[show ((16:Nat):Int)=16 from rfl]
   have hws:=ex l 16
   obtain⟨L0,hL0⟩:=zg (dD l 16)
   rw[<-hL0]at hrow hws
   have HL0:=aa hL0
   have HWS:=aa hws
   have HROW:=aa hrow
   obtain⟨w3,hw3⟩:=zg wr
   rw[<-hw3]at hB HROW hsz ⊢
   clear hL0 hws hrow hw3
   go_wp2
   go_loopw [6] (fun s6 wr=>∃k:Nat,k<=48/\s6=.int .i64 ((16+k:Nat):Int)/\ac wr A 171 (wl 64 (cJ L0 k))/\Below w.heap.size w wr/\wr.heap.size=A+1) (fun s6 _=>64-(intOf s6).toNat)
   case atStart=>exact⟨0,om,rfl,HROW.out,hB,hsz⟩
   case round =>
    clear HROW hB hsz
    obtain⟨k,hk,rfl,hrow,hB,hsz⟩:=hrel
    have hlen:=lD HWS.out k
    obtain⟨t,ht⟩:=zg (16+k)
    rw[<-ht]
    have h16:16<=t:=om
    by_cases hlt:t<64
    ·obtain⟨i15,h15⟩:=zg (t-15)
     obtain⟨i2,h2⟩:=zg (t-2)
     obtain⟨i0,h0⟩:=zg (t-16)
     obtain⟨i7,h7⟩:=zg (t-7)
     have q15:(t:Int)-15=(i15:Int):=om
     have q2:(t:Int)-2=(i2:Int):=om
     have q0:(t:Int)-16=(i0:Int):=om
     have q7:(t:Int)-7=(i7:Int):=om
     have r15:(i15:Int)<64:=om
     have r2:(i2:Int)<64:=om
     have r0:(i0:Int)<64:=om
     have r7:(i7:Int)<64:=om
     have g15:=(ac.cell hrow i15).trans (fy om)
     have g2:=(ac.cell hrow i2).trans (fy om)
     have g0:=(ac.cell hrow i0).trans (fy om)
     have g7:=(ac.cell hrow i7).trans (fy om)
     have gt:=(ac.cell hrow t).trans (mi om om)
     have hfz:wr.frozen? ⟨A,t,none⟩=false:=frozen_of_row _ _ _ _ _ hrow
     have hnx:mg (cJ L0 k) t=(cJ L0 k).getD i0 0+ud ((cJ L0 k).getD i15 0)+(cJ L0 k).getD i7 0+ue ((cJ L0 k).getD i2 0):=by rw[h15,h2,h0,h7];rfl
     obtain⟨x15,hx15⟩:=zg ((cJ L0 k).getD i15 0)
     obtain⟨x2,hx2⟩:=zg ((cJ L0 k).getD i2 0)
     obtain⟨x0,hx0⟩:=zg ((cJ L0 k).getD i0 0)
     obtain⟨x7,hx7⟩:=zg ((cJ L0 k).getD i7 0)
     rw[<-hx15]at g15 hnx
     rw[<-hx2]at g2 hnx
     rw[<-hx0]at g0 hnx
     rw[<-hx7]at g7 hnx
     have hst:=nm hrow (mg (cJ L0 k) t) om t om
     have hss:cJ L0 (k+1)=cJ L0 k++[mg (cJ L0 k) t]:=by rw[ht];rfl
     rw[<-hss,hnx]at hst
     have HST:=aa hst
     have HT:=aa ht
     clear hrow hlen ht h15 h2 h0 h7 hx15 hx2 hx0 hx7 hnx hst hss
     go_wp2
     go_quiet (fail)
     go_wp2
     have hs3:wv x15/(8:Int)=wv (x15 >>> 3):=mh x15 3
     have hs10:wv x2/(1024:Int)=wv (x2 >>> 10):=mh x2 10
     have e1:=iu (aE x15 7) (aE x15 18)
     have e2:=iu (aE x15 7 ^^^ aE x15 18) (x15 >>> 3)
     have e3:=iu (aE x2 17) (aE x2 19)
     have e4:=iu (aE x2 17 ^^^ aE x2 19) (x2 >>> 10)
     have v0:IntKind.i64.wrap (i0:Int)=(i0:Int):=by rw[IntKind.wrap_i64];omega
     have v7:IntKind.i64.wrap (i7:Int)=(i7:Int):=by rw[IntKind.wrap_i64];omega
     have e5:=gT x0 (aE x15 7 ^^^ aE x15 18 ^^^ x15 >>> 3)
     have e6:=gT (x0+(aE x15 7 ^^^ aE x15 18 ^^^ x15 >>> 3)) x7
     have e7:=gT (x0+(aE x15 7 ^^^ aE x15 18 ^^^ x15 >>> 3)+x7) (aE x2 17 ^^^ aE x2 19 ^^^ x2 >>> 10)
     refine wp_region_still_tail 29 kr kr ?_
     simp only[List.take_succ_cons,List.take_zero,List.drop_succ_cons,List.drop_zero]
     change wpStill _ _ (World.drew (wr.drewN nq)) _ _ _
     iterate 6 still_step
     still_call (fR (Cy _ _))
     still_step
     still_call (fR (Cd _ _))
     iterate 11 still_step
     still_call (fR (Cc _ _))
     still_step
     still_call (fR (Ce _ _))
     iterate 6 still_step
     refine wpStill_nil ?_
     change wpList _ _ _ _ _ (World.drew (wr.drewN nq))
     have hst5:ac (((wr.drewN nq).drew).setCell ⟨A,t,none⟩ (.int .u32 (wv (x0+ud x15+x7+ue x2)))) A 171 (wl 64 (cJ L0 (k+1))):=HST.out
     have gt5:((wr.drewN nq).drew).cell? ⟨A,t,none⟩=some (.int .u32 0):=gt
     have fz5:((wr.drewN nq).drew).frozen? ⟨A,t,none⟩=false:=hfz
     have hB5:Below w.heap.size w ((wr.drewN nq).drew):=(below_drewN hB nq).drew
     have hsz5:((wr.drewN nq).drew).heap.size=A+1:=hsz
     generalize (wr.drewN nq).drew=w5 at *
     have hBs:=hB5.setCell (p:=⟨A,t,none⟩) (by show _<=A;have:=HA.out;omega) (.int .u32 (wv (x0+ud x15+x7+ue x2)))
     have HST5:=aa hst5
     clear hst5 gt hfz hB hsz HST e1 e2 e3 e4 e5 e6 e7 hs3 hs10 v0 v7 q15 q2 q0 q7 r15 r2 r0 r7 g15 g2 g0 g7
     go_wp2
     go_roundw
     case rel=>exact⟨k+1,by have:=HT.out;omega,by have:=HT.out;(congr 1;omega),HST5.out,hBs,by simpa using hsz5⟩
     case measure=>simp[intOf];omega
    ·obtain rfl:t=64:=om
     obtain rfl:k=48:=om
     clear hlt hlen h16
     have hx:=ac.below HX.out hB HX.out.lt
     obtain⟨f0,f1,f2,f3,f4,f5,f6,f7⟩:=qE hx
     have hrow:ac wr A 171 (wl 64 (cK l)):=by unfold cK;rw[<-HL0.out];exact hrow
     have HSZ:=aa hsz
     clear hsz
     go_wp2
     obtain⟨V,hV⟩:=zg wr.heap.size
     obtain⟨w5,hw5⟩:=zg (wr.alloc (.cells #[.int .u32 (wv s.a),.int .u32 (wv s.b),.int .u32 (wv s.c),.int .u32 (wv s.d),.int .u32 (wv s.e),.int .u32 (wv s.f),.int .u32 (wv s.g),.int .u32 (wv s.h)] 150))
     rw[<-hw5,<-hV]
     have hv5:ac w5 V 150 (db (i9 (cK l) 0 s)):=by rw[hw5,hV];exact ak _ rfl
     have hr5:ac w5 A 171 (wl 64 (cK l)):=by rw[hw5];exact hrow.alloc _
     have hB5:Below w.heap.size w w5:=by rw[hw5];exact hB.alloc hB.size _
     have hs5:w5.heap.size=V+1:=by rw[hw5,hV];simp
     have hVA:V=A+1:=by rw[hV];exact HSZ.out
     have HVA:=aa hVA
     have HV5:=aa hv5
     have HR5:=aa hr5
     clear hw5 hV hVA hv5 hr5 hrow hx hB f0 f1 f2 f3 f4 f5 f6 f7
     go_loopw [69] (fun s69 wr=>∃k:Nat,k<=64/\s69=.int .i64 k/\ac wr A 171 (wl 64 (cK l))/\ac wr V 150 (db (i9 (cK l) k s))/\Below w.heap.size w wr) (fun s69 _=>64-(intOf s69).toNat)
     case atStart=>exact⟨0,om,rfl,HR5.out,HV5.out,hB5⟩
     case round =>
      clear HR5 HV5 hB5 hs5
      obtain⟨k,hk,rfl,hrow,hv,hB⟩:=hrel
      by_cases hlt:k<64
      ·obtain⟨v,hve⟩:=zg (i9 (cK l) k s)
       rw[<-hve]at hv
       obtain⟨kt,hkt⟩:=zg (Kl.getD k 0)
       obtain⟨wt,hwt⟩:=zg ((cK l).getD k 0)
       have hrn:i9 (cK l) (k+1) s=lC kt wt v:=by rw[hkt,hwt,hve];rfl
       have HRN:=aa hrn
       have gw:=(ac.cell hrow k).trans (fy (by rw[n8];omega))
       have gk:=ag hB (HK.out k hlt)
       rw[<-hwt]at gw
       rw[<-hkt]at gk
       obtain⟨f0,f1,f2,f3,f4,f5,f6,f7⟩:=qE hv
       have k1:(k:Int)<64:=om
       have e1:=iu v.f v.g
       have e2:=qC v.e (v.f ^^^ v.g)
       have e3:=iu v.g (v.e &&& (v.f ^^^ v.g))
       have e4:=gT v.h (i8 v.e 6 11 25)
       have e5:=gT (v.h+i8 v.e 6 11 25) (v.g ^^^ (v.e &&& (v.f ^^^ v.g)))
       have e6:=gT (v.h+i8 v.e 6 11 25+(v.g ^^^ (v.e &&& (v.f ^^^ v.g)))) kt
       have e7:=gT (v.h+i8 v.e 6 11 25+(v.g ^^^ (v.e &&& (v.f ^^^ v.g)))+kt) wt
       rw[Cz]at e7
       obtain⟨p,hp⟩:=zg (pM kt wt v)
       rw[<-hp]at e7
       have HP:=aa hp
       have HROW:=aa hrow
       have HV:=aa hv
       clear hrn hve hkt hwt hp hrow hv
       go_wp2
       go_quiet ((go_at_call 141;exact Calls.quiet_of_same (fR (yq _ _))))
       go_wp2
       clear e1 e2 e3 e4 e5 e6 e7 gw gk
       obtain⟨nq0,rfl⟩:=zg nq
       have e1:=qC v.a v.b
       have e2:=uk v.a v.b
       have e3:=qC v.c (v.a ||| v.b)
       have e4:=uk (v.a &&& v.b) (v.c &&& (v.a ||| v.b))
       have e5:=gT (i8 v.a 2 13 22) ((v.a &&& v.b) ||| (v.c &&& (v.a ||| v.b)))
       rw[CA]at e5
       obtain⟨q,hq⟩:=zg (qM v)
       rw[<-hq]at e5
       have HQ:=aa hq
       clear hq
       go_quiet ((go_at_call 141;exact pg (fR (yr _ _))))
       go_wp2
       clear e1 e2 e3 e4 e5 f0 f1 f2 f3 f4 f5 f6 f7
       have hr6:ac ((wr.drewN nq0).drewN nq) A 171 (wl 64 (cK l)):=HROW.out
       have hv6:ac ((wr.drewN nq0).drewN nq) V 150 (db v):=HV.out
       have hB6:Below w.heap.size w ((wr.drewN nq0).drewN nq):=below_drewN (below_drewN hB nq0) nq
       generalize (wr.drewN nq0).drewN nq=w6 at *
       have HR6:=aa hr6
       have HV6:=aa hv6
       have hcells:∀(j:Nat) (u:Value),([.int .u32 (wv v.a),.int .u32 (wv v.b),.int .u32 (wv v.c),.int .u32 (wv v.d),.int .u32 (wv v.e),.int .u32 (wv v.f),.int .u32 (wv v.g)]:List Value)[j]? = some u->w6.drew.cell? ((⟨V,0,none⟩:Addr).add j)=some u:=by
        intro j u hu
        rw[Addr.add_lit]
        refine(ac.cell hv6 (0+j)).trans ?_
        match j,hu with
        | 0,hu=>exact hu
        | 1,hu=>exact hu
        | 2,hu=>exact hu
        | 3,hu=>exact hu
        | 4,hu=>exact hu
        | 5,hu=>exact hu
        | 6,hu=>exact hu
        | j+7,hu=>simp at hu
       have HC:=aa hcells
       have hb6:Below V w6 w6.drew:=(Below.refl _ _).drew
       obtain⟨cs,hcs⟩:∃cs:List Value,cs=[.int .u32 (wv v.a),.int .u32 (wv v.b),.int .u32 (wv v.c),.int .u32 (wv v.d),.int .u32 (wv v.e),.int .u32 (wv v.f),.int .u32 (wv v.g)]:=⟨_,rfl⟩
       rw[<-hcs]at HC
       have hcl:cs.length=7:=by rw[hcs];rfl
       have hc1:∀u ∈ cs,u.oneCell'=true:=by rw[hcs];intro u hu;simp at hu;rcases hu with rfl|rfl|rfl|rfl|rfl|rfl|rfl<;>rfl
       have HCL:=aa hcl
       have HC1:=aa hc1
       have HCS:=aa hcs
       clear hr6 hv6 HROW HV hB hcells hcs hcl hc1
       go_region_law (first|(refine step_copy_splice rfl (.tmp 116) (.tmp 117) 174 174 rfl 117 Tryz.underlying174 Ch (some ⟨V,1,none⟩) (some ⟨V,0,none⟩) 7 7 7 8 ?hd ?hs V 1 (db v) 150 HV6.out cs HCL.out (fun _=>⟨rfl,⟨V,0,none⟩,rfl,HC.out⟩) (by rw[HCL.out];show 8<=8;omega) HC1.out V w6 hb6 (Nat.le_refl _) ?_;(case hd=>simp[Act.eval,Act.put]);(case hs=>simp[Act.eval,Act.put]);intro w7 HG7 hB7))
       all_goals
        have hnew:ac w7 V 150 [.int .u32 (wv v.a),.int .u32 (wv v.a),.int .u32 (wv v.b),.int .u32 (wv v.c),.int .u32 (wv v.d),.int .u32 (wv v.e),.int .u32 (wv v.f),.int .u32 (wv v.g)]:=by
         have:=HG7.out
         rw[HCS.out]at this
         exact this
        have hVA:w.heap.size<=V:=by have:=HVA.out;have:=HA.out;omega
        have HR7:=aa (ac.below HR6.out hB7 (show A<V by have:=HVA.out;omega))
        have hb7:=hB6.trans (hB7.mono hVA)
        have h1:=ax (ax hnew 4 (.int .u32 (wv (v.d+p)))) 0 (.int .u32 (wv (p+q)))
        have hend:ac ((w7.setCell ⟨V,4,none⟩ (.int .u32 (wv (v.d+p)))).setCell ⟨V,0,none⟩ (.int .u32 (wv (p+q)))) V 150 (db (i9 (cK l) (k+1) s)):=by
         rw[HRN.out]
         unfold lC
         rw[<-HP.out,<-HQ.out]
         exact h1
        have HEND:=aa hend
        have hbe:=(hb7.setCell (p:=⟨V,4,none⟩) hVA (.int .u32 (wv (v.d+p)))).setCell (p:=⟨V,0,none⟩) hVA (.int .u32 (wv (p+q)))
        have hre:ac ((w7.setCell ⟨V,4,none⟩ (.int .u32 (wv (v.d+p)))).setCell ⟨V,0,none⟩ (.int .u32 (wv (p+q)))) A 171 (wl 64 (cK l)):=(HR7.out.setCell (by show A≠V;have:=HVA.out;omega) _).setCell (by show A≠V;have:=HVA.out;omega) _
        have HRE:=aa hre
        obtain⟨f0,f1,f2,f3,f4,f5,f6,f7⟩:=qE hnew
        have z0:w7.frozen? ⟨V,0,none⟩=false:=frozen_of_row _ _ _ _ _ hnew
        have z4:w7.frozen? ⟨V,4,none⟩=false:=frozen_of_row _ _ _ _ _ hnew
        have e1:=qD v.d p
        have e2:=qD p q
        clear hnew h1 hend hre hB7 HG7 f1 f2 f3 f5 f6 f7 hB6 hb6 hb7 HP HQ
        go_wp2
        go_roundw
        case rel=>exact⟨k+1,om,by go_num,HRE.out,HEND.out,hbe⟩
        case measure=>simp[intOf];omega
      ·obtain rfl:k=64:=om
       clear hlt
       have hbX:ac wr X 150 (kN s (i9 (cK l) 64 s) 0):=by rw[vX];exact ac.below HX.out hB HX.out.lt
       obtain⟨v,hv0⟩:=zg (i9 (cK l) 64 s)
       rw[<-hv0]at hv hbX
       have HV:=aa hv
       have HX0:=aa hbX
       have HV0:=aa hv0
       have hBX:w.grownBy wr (some X):=⟨hB.os,hB.tape,hB.output,hB.size,fun q hq _=>hB.block q hq⟩
       have hVX:V≠X:=by have:=HVA.out;have:=HA.out;have:=HX.out.lt;omega
       clear hv hbX hv0 hrow hB
       rw[show ((64:Nat):Int)=64 from rfl]
       obtain⟨w8,rfl⟩:=zg wr
       go_upto_region 21 with (fail)
       go_wp2
       go_loopw [129] (fun s129 wr=>∃k:Nat,k<=8/\s129=.int .i64 k/\ac wr X 150 (kN s v k)/\ac wr V 150 (db v)/\w.grownBy wr (some X)) (fun s129 _=>8-(intOf s129).toNat)
       case atStart=>exact⟨0,om,rfl,HX0.out,HV.out,hBX⟩
       case round =>
        clear HX0 HV hBX
        obtain⟨k,hk,rfl,hx,hv,hB⟩:=hrel
        by_cases hlt:k<8
        ·have gx:=(ac.cell hx k).trans (yv s v hlt)
         have gv:=(ac.cell hv k).trans (ph v hlt)
         have fx:wr.frozen? ⟨X,k,none⟩=false:=frozen_of_row _ _ _ _ _ hx
         have hs:=yw s v hlt
         have hst:=ax hx k (.int .u32 (wv ((dv s).getD k 0+(dv v).getD k 0)))
         have hnew:ac (wr.setCell ⟨X,k,none⟩ (.int .u32 (wv ((dv s).getD k 0+(dv v).getD k 0)))) X 150 (kN s v (k+1)):=by
          unfold ac
          rw[hst,<-hs]
          simp
         have hvn:ac (wr.setCell ⟨X,k,none⟩ (.int .u32 (wv ((dv s).getD k 0+(dv v).getD k 0)))) V 150 (db v):=hv.setCell hVX _
         have e1:=gT ((dv s).getD k 0) ((dv v).getD k 0)
         obtain⟨xs,hxs⟩:=zg ((dv s).getD k 0)
         obtain⟨xv,hxv⟩:=zg ((dv v).getD k 0)
         rw[<-hxs]at gx hnew hvn e1
         rw[<-hxv]at gv hnew hvn e1
         have hBn:w.grownBy (wr.setCell ⟨X,k,none⟩ (.int .u32 (wv (xs+xv)))) (some X):=⟨hB.os,hB.tape,hB.output,by simpa using hB.size,fun q hq hne=>(Below.heap_setCell wr ⟨X,k,none⟩ _ q (fun e=>hne (by rw[e]))).trans (hB.block q hq hne)⟩
         have HN:=aa hnew
         have HVN:=aa hvn
         have k1:(k:Int)<8:=om
         clear hs hst hx hv hxs hxv hB hnew hvn
         go_wp2
         refine wp_region_still_tail 11 kr kr ?_
         simp only[List.take_succ_cons,List.take_zero,List.drop_succ_cons,List.drop_zero]
         change wpStill _ _ (World.drew wr) _ _ _
         iterate 11 still_step
         refine wpStill_nil ?_
         change wpList _ _ _ _ _ (World.drew wr)
         go_wp2
         go_roundw
         case rel=>exact⟨k+1,om,by go_num,HN.out,HVN.out,⟨hBn.os,hBn.tape,hBn.output,hBn.size,hBn.block⟩⟩
         case measure=>simp[intOf];omega
        ·obtain rfl:k=8:=om
         have hend:ac wr X 150 (db (gS s l)):=by
          have:=hx
          rw[yu,HV0.out]at this
          exact this
         have HEND:=aa hend
         clear hx hv hend
         go_wp2
         refine bodyPost_end (by simp[results,Tryz.results117,go_sem];try rfl) rfl ?_
         exact⟨⟨_,rfl⟩,HEND.out,hB⟩
structure dV (w:World):Prop where
 start:∀i u,(db bI)[i]? = some u->w.cell? ⟨0,i,none⟩=some u
 keys:n9 w
theorem dV.below {w w':World}(h:dV w)(hb:Below w.heap.size w w'):dV w':=⟨fun i u hu=>ag hb (h.start i u hu),h.keys.below hb⟩
theorem dV.lt {w:World}(h:dV w):1<w.heap.size:=World.block_lt_of_cell? _ _ (h.keys 0 om)
def br (l:List UInt8):Value:=.agg (af l).toArray
theorem Sl.drop {α:Type}{R:World->List Value->α->Prop}{w:World}{b off n m:Nat}{xs:List α}(h:Sl 1 R w (some ⟨b,off,none⟩) n xs)(hm:m<=n):Sl 1 R w (some ⟨b,off+m,none⟩) (n-m) (xs.drop m):=by
 obtain⟨hl,h⟩:=h
 refine⟨by simp;omega,?_⟩
 rcases h with rfl|⟨b',off',e,hc⟩
 ·exact .inl om
 ·cases e
  refine .inr ⟨b,off+m,rfl,fun i x hx => ?_⟩
  rw[List.getElem?_drop]at hx
  obtain⟨vs,h1,h2,h3⟩:=hc _ x hx
  exact⟨vs,h1,h2,fun j v hv=>by have:=h3 j v hv;rwa [show off+m+i*1+j=off+(m+i)*1+j by omega]⟩
theorem Sl.empty {α:Type}{k:Nat}{R:World->List Value->α->Prop}{w:World}(a:Option Addr){n:Nat}{xs:List α}(hn:n=0)(hx:xs.length=0):Sl k R w a n xs:=⟨om,.inl hn⟩
theorem CI (x0 x1 x2 x3 x4 x5 x6 x7:Value)(w:World):(Instr.index 150 (.agg #[x0,x1,x2,x3,x4,x5,x6,x7]) (.int .i64 0)).run Tryz.prog w=.ok x0 w:=kr
theorem CJ (x0 x1 x2 x3 x4 x5 x6 x7:Value)(w:World):(Instr.index 150 (.agg #[x0,x1,x2,x3,x4,x5,x6,x7]) (.int .i64 1)).run Tryz.prog w=.ok x1 w:=kr
theorem CK (x0 x1 x2 x3 x4 x5 x6 x7:Value)(w:World):(Instr.index 150 (.agg #[x0,x1,x2,x3,x4,x5,x6,x7]) (.int .i64 2)).run Tryz.prog w=.ok x2 w:=kr
theorem CL (x0 x1 x2 x3 x4 x5 x6 x7:Value)(w:World):(Instr.index 150 (.agg #[x0,x1,x2,x3,x4,x5,x6,x7]) (.int .i64 3)).run Tryz.prog w=.ok x3 w:=kr
theorem CM (x0 x1 x2 x3 x4 x5 x6 x7:Value)(w:World):(Instr.index 150 (.agg #[x0,x1,x2,x3,x4,x5,x6,x7]) (.int .i64 4)).run Tryz.prog w=.ok x4 w:=kr
theorem CN (x0 x1 x2 x3 x4 x5 x6 x7:Value)(w:World):(Instr.index 150 (.agg #[x0,x1,x2,x3,x4,x5,x6,x7]) (.int .i64 5)).run Tryz.prog w=.ok x5 w:=kr
theorem CO (x0 x1 x2 x3 x4 x5 x6 x7:Value)(w:World):(Instr.index 150 (.agg #[x0,x1,x2,x3,x4,x5,x6,x7]) (.int .i64 6)).run Tryz.prog w=.ok x6 w:=kr
theorem CP (x0 x1 x2 x3 x4 x5 x6 x7:Value)(w:World):(Instr.index 150 (.agg #[x0,x1,x2,x3,x4,x5,x6,x7]) (.int .i64 7)).run Tryz.prog w=.ok x7 w:=kr
theorem Bx (s:S8)(k:Nat)(h:k<8)(w:World):(Instr.index 150 (.agg #[.int .u32 (wv s.a),.int .u32 (wv s.b),.int .u32 (wv s.c),.int .u32 (wv s.d),.int .u32 (wv s.e),.int .u32 (wv s.f),.int .u32 (wv s.g),.int .u32 (wv s.h)]) (.int .i64 k)).run Tryz.prog w=.ok (.int .u32 (wv ((dv s).getD k 0))) w:=by
 match k,h with
 | 0,_=>exact CI _ _ _ _ _ _ _ _ w
 | 1,_=>exact CJ _ _ _ _ _ _ _ _ w
 | 2,_=>exact CK _ _ _ _ _ _ _ _ w
 | 3,_=>exact CL _ _ _ _ _ _ _ _ w
 | 4,_=>exact CM _ _ _ _ _ _ _ _ w
 | 5,_=>exact CN _ _ _ _ _ _ _ _ w
 | 6,_=>exact CO _ _ _ _ _ _ _ _ w
 | 7,_=>exact CP _ _ _ _ _ _ _ _ w
theorem At (w:World):(Instr.makeSlice 40 (.int .i64 64) (.int .i64 128)).run Tryz.prog w=.ok (.slice (some ⟨w.heap.size,0,none⟩) 64 128) (w.alloc (.cells (af (List.replicate 128 0)).toArray 5)):=kr
theorem ul (r:List UInt8)(m:Nat)(h:r.length=m)(hm:m<=128):splice (af (List.replicate 128 0)) 0 (af r)=af (r++List.replicate (128-m) 0):=by
 subst h
 unfold splice af
 rw[List.take_zero,List.nil_append,List.map_append,<-List.map_drop,List.length_map,List.drop_replicate,Nat.zero_add]
theorem yx (r:List UInt8)(m:Nat)(h:r.length=m)(hm:m<128):(r++List.replicate (128-m) (0:UInt8)).set m 128=r++(128::List.replicate (127-m) 0):=by
 subst h
 rw[List.set_append_right _ _ (Nat.le_refl _),Nat.sub_self,show 128-r.length=(127-r.length)+1 by omega,List.replicate_succ,zC]
theorem yy (r:List UInt8)(n m e:Nat)(h:r.length=m)(he:e=1/\m<=55\/e=2/\55<m/\m<64):(fw r n).length=64*e:=by
 simp only[fw,List.length_append,List.length_replicate,eN,List.length_singleton,dO,h]
 omega
theorem Au (r:List UInt8)(n m e:Nat)(h:r.length=m)(he:e=1/\m<=55\/e=2/\55<m/\m<64) :
  ∃tl,cY (r++(128::List.replicate (127-m) 0)) (64*e-8) 8 (n*8) 8=fw r n++tl/\tl.length=128-64*e:=by
 refine⟨(r++(128::List.replicate (127-m) 0)).drop (64*e),?_,?_⟩
 ·unfold cY fw
  have e1:64*e-8+(8-8)=m+1+(64*e-9-m):=om
  rw[e1,show 64*e-8+8=64*e by omega]
  have e2:(r++(128::List.replicate (127-m) 0)).take (m+1+(64*e-9-m))=r++([0x80]++List.replicate (dO r.length) 0):=by
   rw[show r++(128::List.replicate (127-m) (0:UInt8))=(r++[128])++List.replicate (127-m) 0 by simp,List.take_append,List.take_of_length_le (by simp;omega)]
   rw[show m+1+(64*e-9-m)-(r++[(128:UInt8)]).length=64*e-9-m by simp;omega,List.take_replicate,h,show min (64*e-9-m) (127-m)=dO m by unfold dO;omega]
   simp
  rw[e2]
  simp
 ·simp
  omega
theorem lF (l:List UInt8)(i:Nat)(x:UInt8):(af l).set i (.int .u8 x.toNat)=af (l.set i x):=by simp[af,List.map_set]
theorem cd {l:List UInt8}{i:Nat}{x:UInt8}(h:l[i]? = some x):(af l)[i]? = some (.int .u8 x.toNat):=by simp[af,h]
def kO (s:S8)(k:Nat):List UInt8:=((dv s).take k).flatMap (fun x=>be 4 x.toNat)++List.replicate (32-4*k) 0
theorem vY (s:S8):kO s 0=List.replicate 32 0:=rfl
theorem yz (s:S8):kO s 8=dP s:=by simp[kO,dP,dv]
theorem qV (s:S8){k:Nat}(h:k<=8):(((dv s).take k).flatMap (fun x=>be 4 x.toNat)).length=4*k:=by
 match k,h with
 | 0,_=>rfl
 | 1,_=>simp[dv,eN]
 | 2,_=>simp[dv,eN]
 | 3,_=>simp[dv,eN]
 | 4,_=>simp[dv,eN]
 | 5,_=>simp[dv,eN]
 | 6,_=>simp[dv,eN]
 | 7,_=>simp[dv,eN]
 | 8,_=>simp[dv,eN]
theorem yA (s:S8){k:Nat}(h:k<=8):(kO s k).length=32:=by
 simp only[kO,List.length_append,qV s h,List.length_replicate]
 omega
theorem yB (s:S8){k:Nat}(h:k<8):cY (kO s k) (4*k) 4 ((dv s).getD k 0).toNat 4=kO s (k+1):=by
 have hp:=qV s (show k<=8 by omega)
 have hl:k<(dv s).length:=by simpa[dv] using h
 unfold cY kO
 rw[show 4*k+(4-4)=4*k by omega,List.take_append_of_le_length om,List.take_of_length_le om,List.drop_append,List.drop_of_length_le om,List.nil_append,List.drop_replicate,hp]
 rw[List.take_succ_eq_append_getElem hl,List.flatMap_append]
 congr 1
 ·congr 1
  simp[List.getD_eq_getElem?_getD,List.getElem?_eq_getElem hl]
 ·congr 1
  omega
theorem ey : (Tryz.prog.info? 48).map (·.size)=some 32:=kr
theorem je (l:List UInt8):(af l).toArray.all (·.oneCell')=true:=by
 simp[af,Value.oneCell']
theorem By (g:Nat)(w:World):(Instr.sliceAt 48 (.pointer (some ⟨g,0,none⟩)) (some (.int .i64 0)) (some (.int .i64 4)) none).run Tryz.prog w=.ok (.slice (some ⟨g,0,none⟩) 4 32) w:=kr
theorem Bz (g:Nat)(w:World):(Instr.sliceAt 48 (.pointer (some ⟨g,0,none⟩)) (some (.int .i64 4)) (some (.int .i64 8)) none).run Tryz.prog w=.ok (.slice (some ⟨g,4,none⟩) 4 28) w:=kr
theorem BA (g:Nat)(w:World):(Instr.sliceAt 48 (.pointer (some ⟨g,0,none⟩)) (some (.int .i64 8)) (some (.int .i64 12)) none).run Tryz.prog w=.ok (.slice (some ⟨g,8,none⟩) 4 24) w:=kr
theorem BB (g:Nat)(w:World):(Instr.sliceAt 48 (.pointer (some ⟨g,0,none⟩)) (some (.int .i64 12)) (some (.int .i64 16)) none).run Tryz.prog w=.ok (.slice (some ⟨g,12,none⟩) 4 20) w:=kr
theorem BC (g:Nat)(w:World):(Instr.sliceAt 48 (.pointer (some ⟨g,0,none⟩)) (some (.int .i64 16)) (some (.int .i64 20)) none).run Tryz.prog w=.ok (.slice (some ⟨g,16,none⟩) 4 16) w:=kr
theorem BD (g:Nat)(w:World):(Instr.sliceAt 48 (.pointer (some ⟨g,0,none⟩)) (some (.int .i64 20)) (some (.int .i64 24)) none).run Tryz.prog w=.ok (.slice (some ⟨g,20,none⟩) 4 12) w:=kr
theorem BE (g:Nat)(w:World):(Instr.sliceAt 48 (.pointer (some ⟨g,0,none⟩)) (some (.int .i64 24)) (some (.int .i64 28)) none).run Tryz.prog w=.ok (.slice (some ⟨g,24,none⟩) 4 8) w:=kr
theorem BF (g:Nat)(w:World):(Instr.sliceAt 48 (.pointer (some ⟨g,0,none⟩)) (some (.int .i64 28)) (some (.int .i64 32)) none).run Tryz.prog w=.ok (.slice (some ⟨g,28,none⟩) 4 4) w:=kr
theorem CB (g i:Nat)(h:i<8)(w:World):(Instr.sliceAt 48 (.pointer (some ⟨g,0,none⟩)) (some (.int .i64 (4*(i:Int)))) (some (.int .i64 (4*(i:Int)+4))) none).run Tryz.prog w=.ok (.slice (some ⟨g,4*i,none⟩) 4 (32-4*i)) w:=by
 match i,h with
 | 0,_=>exact By g w
 | 1,_=>exact Bz g w
 | 2,_=>exact BA g w
 | 3,_=>exact BB g w
 | 4,_=>exact BC g w
 | 5,_=>exact BD g w
 | 6,_=>exact BE g w
 | 7,_=>exact BF g w
theorem me (a:Option Addr)(n c:Nat)(l:List UInt8)(w:World)(hn:n<=1000000)(hc:n<=c)(hi:dV w)(h:Sl 1 ai w a n l) :
  Calls Tryz.prog 93 #[.slice a n c] w fun e w'=>e=.returned (br (cL l))/\Below w.heap.size w w':=by
 have H:=aa h
 have HI:=aa hi
 have hlt:=hi.lt
 obtain⟨f0,f1,f2,f3,f4,f5,f6,f7⟩:w.cell? ⟨0,0,none⟩=some (.int .u32 (wv bI.a))/\w.cell? ⟨0,1,none⟩=some (.int .u32 (wv bI.b))/\w.cell? ⟨0,2,none⟩=some (.int .u32 (wv bI.c))/\w.cell? ⟨0,3,none⟩=some (.int .u32 (wv bI.d))/\w.cell? ⟨0,4,none⟩=some (.int .u32 (wv bI.e))/\w.cell? ⟨0,5,none⟩=some (.int .u32 (wv bI.f))/\w.cell? ⟨0,6,none⟩=some (.int .u32 (wv bI.g))/\w.cell? ⟨0,7,none⟩=some (.int .u32 (wv bI.h)):=
  ⟨hi.start 0 _ rfl,hi.start 1 _ rfl,hi.start 2 _ rfl,hi.start 3 _ rfl,hi.start 4 _ rfl,hi.start 5 _ rfl,hi.start 6 _ rfl,hi.start 7 _ rfl⟩
 have h0:0<w.heap.size:=om
 clear h hi
 go_enter Tryz.func93,Tryz.ntmps93
 go_wp2
 clear f0 f1 f2 f3 f4 f5 f6 f7
 obtain⟨D0,hD0⟩:=zg w.heap.size
 obtain⟨w1,hw1⟩:=zg ((w.alloc (.cells zI 48)).alloc (.cells #[.int .u32 (wv bI.a),.int .u32 (wv bI.b),.int .u32 (wv bI.c),.int .u32 (wv bI.d),.int .u32 (wv bI.e),.int .u32 (wv bI.f),.int .u32 (wv bI.g),.int .u32 (wv bI.h)] 150))
 rw[<-hw1,<-hD0]
 have hx1:ac w1 (D0+1) 150 (db (dS 0 bI l)):=by rw[hw1,hD0];exact ak _ (by simp)
 have hd1:ac w1 D0 48 (af (List.replicate 32 0)):=by rw[hw1,hD0];exact aB _ (ak _ rfl)
 have hB1:Below w.heap.size w w1:=by rw[hw1];exact((Below.refl _ w).alloc (Nat.le_refl _) _).alloc (by simp) _
 have HX1:=aa hx1
 have HD1:=aa hd1
 have HD0:=aa hD0
 have HS:=aa (H.out.below ai.keeps hB1)
 have HLEN:Hid (l.length=n):=H.out.len
 have hbl:∀ad,a=some ad->0<n-64*0->ad.block<w.heap.size:=by
  intro ad had hpos
  rcases H.out.bytes with h0|⟨b,off,h0,hc0⟩
  ·omega
  ·obtain⟨x,hx⟩:=av H.out.len (show 0<n by omega)
   have:=World.block_lt_of_cell? _ _ (hc0 0 x hx)
   rw[h0]at had
   cases had
   exact this
 have HBL:=aa hbl
 clear hw1 hD0 hx1 hd1 hbl
 go_loopw [5] (fun s5 wr=>∃(k:Nat) (A:Option Addr),64*k<=n/\s5=.slice A (n-64*k) (c-64*k)/\Sl 1 ai wr A (n-64*k) (l.drop (64*k))/\ac wr (D0+1) 150 (db (dS k bI l))/\ac wr D0 48 (af (List.replicate 32 0))/\(∀ad,A=some ad->0<n-64*k->ad.block<w.heap.size)/\Below w.heap.size w wr) (fun s5 _=>match s5 with | .slice _ n _=>n|_=>0)
 case atStart=>exact⟨0,a,om,rfl,by simpa using HS.out,HX1.out,HD1.out,HBL.out,hB1⟩
 case round =>
  clear HX1 HD1 HS HBL hB1
  obtain⟨k,A,hk,rfl,hsl,hx,hd,hbl,hB⟩:=hrel
  obtain⟨m,hm⟩:=zg (n-64*k)
  obtain⟨cc,hcc⟩:=zg (c-64*k)
  rw[<-hm]at hsl hbl ⊢
  rw[<-hcc]
  have hmc:m<=cc:=om
  have HM:=aa hm
  have HCC:=aa hcc
  clear hm hcc
  by_cases hge:64<=m
  ·obtain⟨b,off,rfl,hcells⟩:∃b off,A=some ⟨b,off,none⟩/\∀i x,(l.drop (64*k))[i]? = some x->wr.cell? ⟨b,off+i,none⟩=some (.int .u8 x.toNat):=by
    rcases hsl.bytes with h0|⟨b,off,h0,hc⟩
    ·omega
    ·exact⟨b,off,h0,hc⟩
   have hbw:b<w.heap.size:=hbl _ rfl om
   have HC:=aa hcells
   have HSL:=aa hsl
   have HX:=aa hx
   have HD:=aa hd
   have hz:=hB.size
   have hI2:=HI.out.below hB
   have HI2:=aa hI2
   have k1:(64:Int)<=(m:Int):=om
   have k2:(64:Int)<=(cc:Int):=om
   clear hcells hsl hx hd hI2 hbl
   go_wp2_with fail
   refine(ob (D0+1) b off 64 cc (dS k bI l) (l.drop (64*k)) wr om om (by rw[List.length_drop,HLEN.out];have:=HM.out;omega) HI2.out.keys HX.out (by have:=HD0.out;omega) (by have:=HD0.out;omega) (fun i x _ hx=>HC.out i x hx)).mono ?_
   rintro e w2 ⟨⟨_,rfl⟩,hx2,hg2⟩
   rw[<-lE]at hx2
   have hB2:Below w.heap.size w w2:=hB.grown hg2 hB.size (fun q hq=>by cases hq;have:=HD0.out;omega)
   have hd2:ac w2 D0 48 (af (List.replicate 32 0)):=(hg2.block D0 HD.out.lt (by simp)).trans HD.out
   have hsl2:Sl 1 ai w2 (some ⟨b,off,none⟩) m (l.drop (64*k)):=by
    rcases HSL.out with ⟨h1,h2⟩
    refine⟨h1,?_⟩
    rcases h2 with h2|⟨b',off',e,h2⟩
    ·exact .inl h2
    ·cases e
     refine .inr ⟨b,off,rfl,fun i x hx => ?_⟩
     obtain⟨vs,h3,h4,h5⟩:=h2 i x hx
     exact⟨vs,h3,h4,fun j v hv=>(World.cell?_of_block (hg2.block b om (by have:=HD0.out;simp;omega))).trans (h5 j v hv)⟩
   have hm1:n-64*(k+1)=m-64:=by have:=HM.out;omega
   have hc1:c-64*(k+1)=cc-64:=by have:=HCC.out;omega
   have hdd:(l.drop (64*k)).drop 64=l.drop (64*(k+1)):=by rw[List.drop_drop];congr 1
   have hsl3:Sl 1 ai w2 (some ⟨b,off+64,none⟩) (m-64) (l.drop (64*(k+1))):=by
    rw[<-hdd];exact Sl.drop hsl2 hge
   have HSL3:=aa hsl3
   have HX2:=aa hx2
   have HD2:=aa hd2
   have HM1:=aa hm1
   have HC1:=aa hc1
   have hk1:64*(k+1)<=n:=by have:=HM.out;omega
   have hll:m=64->(l.drop (64*(k+1))).length=0:=fun h=>by rw[List.length_drop,HLEN.out];omega
   have HLL:=aa hll
   clear HSL HX HD HC HI2 hsl2 hsl3 hx2 hd2 hm1 hc1 hdd hg2 hz hll
   by_cases hcc:cc=64
   ·obtain rfl:m=64:=om
    subst hcc
    go_wp2
    go_roundw
    case rel=>exact⟨k+1,_,hk1,by rw[HM1.out,HC1.out],Sl.empty _ (by rw[HM1.out]) (HLL.out trivial),HX2.out,HD2.out,fun _ _ h=>by rw[HM1.out]at h;omega,hB2⟩
    case measure=>simp
   ·have hcc2:¬(cc:Int)=64:=om
    go_wp2
    go_roundw
    case rel=>exact⟨k+1,_,hk1,by rw[HM1.out,HC1.out],by rw[HM1.out];exact HSL3.out,HX2.out,HD2.out,fun ad had _=>by cases had;exact hbw,hB2⟩
    case measure=>simp;omega
  ·obtain rfl:k=n/64:=by have:=HM.out;omega
   have hm2:m=n%64:=by have:=HM.out;omega
   have hpl:=uj l
   rw[HLEN.out,<-hm2]at hpl
   obtain⟨r,hr⟩:=zg (l.drop (64*(n/64)))
   rw[<-hr]at hsl hpl
   obtain⟨s1,hs1⟩:=zg (dS (n/64) bI l)
   rw[<-hs1]at hx hpl
   have hrl:r.length=m:=hsl.len
   have HPL:=aa hpl
   have HRL:=aa hrl
   have HSL:=aa hsl
   have HX:=aa hx
   have HD:=aa hd
   have hbl2:∀ad,A=some ad->0<m->ad.block<w.heap.size:=hbl
   have HBL:=aa hbl2
   have hz:=hB.size
   have hml:m<64:=om
   obtain⟨w3,rfl⟩:=zg wr
   clear hm2 hpl hr hs1 hsl hx hd hbl hbl2 hk hrl hge HM HCC
   go_upto_region 7 with (fail)
   have hmk:=At
   obtain⟨Z,hZ⟩:=zg (af (List.replicate 128 0))
   rw[<-hZ]at hmk
   have HZ:=aa hZ
   clear hZ
   go_upto_region 8 with (fail)
   clear hmk
   obtain⟨E,hE⟩:=zg w3.heap.size
   obtain⟨w4,hw4⟩:=zg (w3.alloc (.cells Z.toArray 5))
   rw[<-hw4,<-hE]
   have hS4:Below w3.heap.size w3 w4:=by rw[hw4];exact(Below.refl _ w3).alloc (Nat.le_refl _) _
   have hrow:ac w4 E 5 Z:=by rw[hw4,hE];exact ak _ rfl
   have HE:=aa hE
   have HROW:=aa hrow
   have hED:D0+1<E:=by rw[hE];exact HX.out.lt
   have HX:=aa (HX.out.below hS4 HX.out.lt)
   have HD:=aa (HD.out.below hS4 HD.out.lt)
   have HSL:=aa (HSL.out.below ai.keeps hS4)
   have hB:=hB.trans (hS4.mono hz)
   have hEn:w.heap.size<=E:=by rw[hE];exact hz
   clear hw4 hE hS4 hrow hz
   have hb4:Below E w4 w4:=Below.refl _ _
   obtain⟨q1,q2,q3,q4⟩:=bV HSL.out
   have Q1:Hid ((af r).length=Nat.min m 64):=by rw[q1];show m*1=min m 64;omega
   have Q2:Hid (0<(af r).length->∃ad,A=some ad/\∀j v,(af r)[j]? = some v->w4.cell? (ad.add j)=some v):=by
    intro hpos
    cases A with
    | none=>have:=q2 rfl;rw[q1]at hpos;omega
    | some ad=>exact⟨ad,rfl,q3 ad rfl⟩
   have q5:0+(af r).length<=Z.length:=by rw[q1,HZ.out];simp only[af,List.length_map,List.length_replicate];omega
   have Q3:=aa q5
   have Q4:=aa q4
   clear q1 q2 q3 q4 q5
   go_upto_region 9 with (refine wpList_copy_splice rfl (.tmp 22) (.tmp 23) 40 40 rfl 5 Tryz.underlying40 qB (some ⟨E,0,none⟩) A 64 128 m cc ?hd ?hs E 0 Z 5 HROW.out (af r) Q1.out (fun h=>⟨rfl,Q2.out h⟩) Q3.out Q4.out E w4 hb4 (Nat.le_refl _) ?_;(case hd=>rfl);(case hs=>rfl);intro w5 HG5 hB5)
   have hr5:ac w5 E 5 (af (r++List.replicate (128-m) 0)):=by
    have:=HG5.out
    rw[HZ.out,ul r m HRL.out om]at this
    exact this
   have hc5:w5.cell? ⟨E,m,none⟩=some (.int .u8 0):=(ac.cell hr5 m).trans (by
    rw[cd (x:=0)]
    ·rfl
    ·rw[List.getElem?_append_right (by rw[HRL.out];omega),HRL.out,Nat.sub_self,List.getElem?_replicate,if_pos om])
   have hf5:w5.frozen? ⟨E,m,none⟩=false:=frozen_of_row _ _ _ _ _ hr5
   have hr6:ac (w5.setCell ⟨E,m,none⟩ (.int .u8 128)) E 5 (af (r++(128::List.replicate (127-m) 0))):=by
    have h1:=ax hr5 m (.int .u8 128)
    rw[<-yx r m HRL.out om,<-lF]
    unfold ac
    rw[h1]
    simp
   have hB6:Below E w4 (w5.setCell ⟨E,m,none⟩ (.int .u8 128)):=hB5.setCell (p:=⟨E,m,none⟩) (Nat.le_refl _) _
   have HR6:=aa hr6
   clear hr5 hr6 hB5 HG5 Q1 Q2 Q3 Q4 HROW HSL HZ
   obtain⟨e,he,hoff⟩:∃e,(e=1/\m<=55\/e=2/\55<m/\m<64)/\e<=2:=by
    by_cases h:55<m
    ·exact⟨2,.inr ⟨rfl,h,hml⟩,om⟩
    ·exact⟨1,.inl ⟨rfl,om⟩,om⟩
   obtain⟨tl,ht1,ht2⟩:=Au r n m e HRL.out he
   have hel:=yy r n m e HRL.out he
   have HT1:=aa ht1
   have HT2:=aa ht2
   have HEL:=aa hel
   have heb:dh m=e:=by unfold dh;omega
   have HEB:=aa heb
   clear ht1 ht2 hel heb
   have k1:(m:Int)<64:=om
   rcases he with ⟨he1,h55⟩|⟨he1,h55,_⟩
   all_goals
    have HE1:=aa he1
    clear he1
    go_upto_region 12 with (fail)
    clear hc5 hf5
    generalize w5.setCell ⟨E,m,none⟩ (.int .u8 128)=w6 at *
    go_wp2_with fail
    refine(ig E _ 8 _ (n*8) 5 _ w6 om om om ?_ HR6.out).mono ?_
    ·simp[HRL.out];omega
    rintro e' w7 ⟨⟨_,rfl⟩,hr7,hB7,hz7,ho7⟩
    have hr8:ac w7 E 5 (af (fw r n++tl)):=by
     rw[<-HT1.out,HE1.out]
     exact hr7
    have hB8:Below w.heap.size w w7:=(hB.trans (hB6.mono hEn)).trans (hB7.mono hEn)
    have hx8:ac w7 (D0+1) 150 (db (dS 0 s1 (fw r n))):=(HX.out.below hB6 hED).below hB7 hED
    have hd8:ac w7 D0 48 (af (List.replicate 32 0)):=(HD.out.below hB6 om).below hB7 om
    have HR8:=aa hr8
    have HX8:=aa hx8
    have HD8:=aa hd8
    have hse:Hid (64*e=64*(e-0)):=rfl
    clear hr7 hB7 hz7 ho7 hr8 hx8 hd8 hB6 HR6 HT1 HX HD hB hb4
    go_wp2
    go_loopw [6] (fun s6 wr=>∃(k:Nat) (A:Option Addr),k<=e/\s6=.slice A (64*(e-k)) (128-64*k)/\(k<e->A=some ⟨E,64*k,none⟩)/\ac wr E 5 (af (fw r n++tl))/\ac wr (D0+1) 150 (db (dS k s1 (fw r n)))/\ac wr D0 48 (af (List.replicate 32 0))/\Below w.heap.size w wr) (fun s6 _=>match s6 with | .slice _ n _=>n|_=>0)
    case atStart=>exact⟨0,some ⟨E,0,none⟩,Nat.zero_le _,by rw[HE1.out],fun _=>rfl,HR8.out,HX8.out,HD8.out,hB8⟩
    case round =>
     clear HR8 HX8 HD8 hB8 hse
     obtain⟨k,A2,hk,rfl,hA2,hrow,hx,hd,hB⟩:=hrel
     by_cases hlt:k<e
     ·obtain rfl:=hA2 hlt
      obtain⟨O,hO⟩:=zg (64*k)
      obtain⟨M,hM⟩:=zg (64*(e-k))
      obtain⟨C,hC⟩:=zg (128-64*k)
      rw[<-hC,<-hM,<-hO]
      have k2:(64:Int)<=(M:Int):=om
      have k3:(64:Int)<=(C:Int):=om
      have k4:(0:Int)<(M:Int):=om
      have HO:=aa hO
      have HM:=aa hM
      have HC:=aa hC
      have HROW:=aa hrow
      have HX:=aa hx
      have HD:=aa hd
      have hz:=hB.size
      have hI2:=HI.out.below hB
      have HI2:=aa hI2
      clear hO hM hC hA2 hrow hx hd hI2
      go_wp2_with fail
      refine(ob (D0+1) E O 64 C (dS k s1 (fw r n)) ((fw r n).drop (64*k)) wr om om (by rw[List.length_drop,HEL.out];have:=HM.out;omega) HI2.out.keys HX.out om (by have:=HD0.out;omega) (fun i x hi hx => ?_)).mono ?_
      ·rw[List.getElem?_drop]at hx
       rw[HO.out]
       refine(ac.cell HROW.out _).trans (cd ?_)
       rw[List.getElem?_append_left (List.getElem?_eq_some_iff.1 hx).1]
       exact hx
      rintro e' w2 ⟨⟨_,rfl⟩,hx2,hg2⟩
      rw[<-lE]at hx2
      have hB2:Below w.heap.size w w2:=hB.grown hg2 hB.size (fun q hq=>by cases hq;have:=HD0.out;omega)
      have hd2:ac w2 D0 48 (af (List.replicate 32 0)):=(hg2.block D0 HD.out.lt (by simp)).trans HD.out
      have hr2:ac w2 E 5 (af (fw r n++tl)):=(hg2.block E HROW.out.lt (by simp;omega)).trans HROW.out
      have HX2:=aa hx2
      have HD2:=aa hd2
      have HR2:=aa hr2
      clear HROW HX HD HI2 hx2 hd2 hr2 hg2 hz
      by_cases hcc:C=64
      ·have hcc2:(C:Int)=64:=om
       have hm1:M-64=64*(e-(k+1)):=by have:=HM.out;omega
       have hc1:C-64=128-64*(k+1):=by have:=HC.out;omega
       have ho1:k+1<e->(some ⟨E,O,none⟩:Option Addr)=some ⟨E,64*(k+1),none⟩:=fun h=>by have:=HC.out;omega
       have HM1:=aa hm1
       have HC1:=aa hc1
       have HO1:=aa ho1
       clear hm1 hc1 ho1
       go_wp2
       go_roundw
       case rel=>exact⟨k+1,_,hlt,by rw[<-HC1.out,<-HM1.out,hcc],HO1.out,HR2.out,HX2.out,HD2.out,hB2⟩
       case measure=>simp;omega
      ·have hcc2:¬(C:Int)=64:=om
       have hm1:M-64=64*(e-(k+1)):=by have:=HM.out;omega
       have hc1:C-64=128-64*(k+1):=by have:=HC.out;omega
       have ho1:k+1<e->(some ⟨E,O+64,none⟩:Option Addr)=some ⟨E,64*(k+1),none⟩:=fun h=>by rw[HO.out,Nat.mul_add]
       have HM1:=aa hm1
       have HC1:=aa hc1
       have HO1:=aa ho1
       clear hm1 hc1 ho1
       go_wp2
       go_roundw
       case rel=>exact⟨k+1,_,hlt,by rw[<-HC1.out,<-HM1.out],HO1.out,HR2.out,HX2.out,HD2.out,hB2⟩
       case measure=>simp;omega
     ·obtain rfl:k=e:=om
      have hsx:dS k s1 (fw r n)=dS (dh m) s1 (fw r n):=by rw[HEB.out]
      obtain⟨sf,hsf⟩:=zg (dS (dh m) s1 (fw r n))
      rw[hsx,<-hsf]at hx
      have hpl:=HPL.out
      rw[<-hsf,<-yz]at hpl
      have HPL2:=aa hpl
      rw[<-vY sf]at hd
      have HX:=aa hx
      have HD:=aa hd
      obtain⟨f0,f1,f2,f3,f4,f5,f6,f7⟩:=qE hx
      obtain⟨M,hM⟩:=zg (64*(k-k))
      obtain⟨C,hC⟩:=zg (128-64*k)
      rw[<-hC,<-hM]
      have k2:(M:Int)=0:=om
      clear hsx hsf hpl hx hd hrow hA2 hM hC
      obtain⟨w8,rfl⟩:=zg wr
      go_upto_region 16 with (fail)
      go_wp2
      clear f0 f1 f2 f3 f4 f5 f6 f7
      go_loopw [54] (fun s54 wr=>∃i:Nat,i<=8/\s54=.int .i64 i/\ac wr D0 48 (af (kO sf i))/\Below w.heap.size w wr) (fun s54 _=>8-(intOf s54).toNat)
      case atStart=>exact⟨0,om,rfl,HD.out,hB⟩
      case round =>
       clear HD HX hB
       obtain⟨i,hi,rfl,hd,hB⟩:=hrel
       by_cases hlt:i<8
       ·have hix:=Bx sf i hlt wr
        have hput:=yB sf hlt
        have hsl:=CB D0 i hlt wr
        have hlen:=yA sf hi
        obtain⟨x,hx⟩:=zg ((dv sf).getD i 0)
        rw[<-hx]at hix hput
        have HPUT:=aa hput
        have HD:=aa hd
        have hw:IntKind.u64.wrap (wv x)=wv x:=by have h1:=Cv x;have h2:=B9 x;rw[IntKind.wrap_u64];omega
        have k3:(0:Int)<=4*(i:Int):=om
        have k4:4*(i:Int)+4<=32:=om
        have hz:=hB.size
        have HLEN2:=aa hlen
        clear hx hput hd hlen
        go_wp2_with fail
        refine(ig D0 (4*i) 4 _ x.toNat 48 _ wr (by have:=x.isLt;omega) om om (by rw[HLEN2.out];omega) HD.out).mono ?_
        rintro e' w9 ⟨⟨_,rfl⟩,hr9,hB9,hz9,ho9⟩
        rw[HPUT.out]at hr9
        have HR9:=aa hr9
        have hB10:=hB.trans (hB9.mono (by have:=HD0.out;omega))
        clear hr9 hB9 hz9 ho9 hix hw hsl HD
        go_wp2
        go_roundw
        case rel=>exact⟨i+1,om,by go_num,HR9.out,hB10⟩
        case measure=>simp[intOf];omega
       ·obtain rfl:i=8:=om
        rw[<-HPL2.out]at hd
        have hsz:(af (cL l)).toArray.size=32:=by simp[af,fv]
        have hone:=je (cL l)
        have hdv:br (cL l)=.agg (af (cL l)).toArray:=rfl
        have hh:wr.heap[D0]? = some (.cells (af (cL l)).toArray 48 (0,0)):=hd
        obtain⟨Dv,hDv⟩:=zg ((af (cL l)).toArray)
        rw[<-hDv]at hh hsz hone hdv
        have hi35:=ey
        rw[<-hsz]at hi35
        have HH:=aa hh
        have HI35:=aa hi35
        have HONE:=aa hone
        have HDV:=aa hdv
        clear hd hDv hi35 hone hh hsz hdv hlt
        go_upto_region 21 with (fail)
        go_wp2_with (first|(refine wpList_load_row rfl 48 (.tmp 2) rfl D0 ?e1 48 Dv (0,0) _ HH.out Tryz.underlying48 rfl HI35.out ?_;(case e1=>rfl))|(refine wpList_store_row rfl 48 (.tmp 2) (.tmp 68) rfl D0 Dv ?e1 ?e2 48 Dv HH.out HI35.out rfl HONE.out ?_;(case e1=>rfl);(case e2=>rfl)))
        refine bodyPost_ret (results_cell_row rfl _ _ D0 48 Dv (0,0) _ rfl (setRow_heap _ _ _ _ _ _ HH.out) Tryz.underlying48 rfl HI35.out) rfl ?_
        exact⟨by rw[HDV.out],below_setRow hB (by rw[HD0.out];exact Nat.le_refl _) _⟩
theorem yC {w:World}{base:Nat}{e:TypeId}{size n c:Nat}{a:Option Addr}{xs:List Value}(h:w.ownsRow base e size (.slice a n c) n xs):w.ownsRow base e size (.slice a 0 c) 0 []:=by
 refine⟨by simp,?_⟩
 rcases h.2 with ⟨h1,rfl⟩|⟨g,cap,cur,h1,h2,h3,h4,h5,h6,_⟩
 ·cases h1;exact .inl ⟨rfl,rfl⟩
 ·simp only[Value.slice.injEq,true_and]at h1
  obtain⟨rfl,rfl⟩:=h1
  exact .inr ⟨g,c,cur,rfl,h2,h3,Nat.zero_le _,h5,h6,by simp⟩
theorem bU {w:World}{base:Nat}{e:TypeId}{size n:Nat}{v:Value}{xs:List Value}(h:w.ownsRow base e size v n xs):∀k,v.ownBlock=some k->base<=k:=by
 intro k hk
 rcases h.2 with ⟨rfl,_⟩|⟨g,cap,cur,rfl,h2,_⟩
 ·simp[Value.ownBlock]at hk
 ·simp only[Value.ownBlock,Option.some.injEq]at hk
  omega
theorem eO : ∃i:TypeInfo,Tryz.prog.info? 5=some i/\i.zero=some (.int .u8 0)/\i.size=1/\i.bytes=1:=info_parts jv
theorem yD (m:Nat)(w:World)(hm:m<=2000000) :
  Calls Tryz.prog 119 #[.slice none 0 0,.int .i64 m] w fun e w'=>(∃va vc,e=.returned (.slice va 0 vc)/\w'.ownsRow w.heap.size 5 1 (.slice va 0 vc) 0 [])/\Below w.heap.size w w':=by
 obtain⟨i0,hi0,hz0,hz1,hz2⟩:=eO
 have h0:(0:Int)<=(m:Int):=om
 by_cases hp:0<m
 ·go_enter Tryz.func119,Tryz.ntmps119
  go_upto_region 5 with (fail)
  go_wp2_with (at_builtin;refine jt rfl (.tmp 20) (.tmp 21) 40 3 rfl w.heap.size 5 i0 (.int .u8 0) 1 .i64 .i64 Tryz.underlying40 Tryz.underlying3 hi0 hz0 hz1 hz2 rfl rfl (.slice none 0 0) 0 [] rfl (World.ownsRow_nil w w.heap.size 5 1) m rfl ?c1 ?c2 (Nat.le_refl _) ?_;rotate_right;intro va vc w2 hown hgrow)
  ·go_ret
   exact⟨⟨va,vc,rfl,yC hown⟩,(Below.refl _ _).grown hgrow (Nat.le_refl _) (by simp[Value.ownBlock])⟩
  ·unfold maxLen;omega
  ·omega
 ·obtain rfl:m=0:=om
  go_enter Tryz.func119,Tryz.ntmps119
  go_wp2
  go_ret
  exact⟨⟨none,0,rfl,World.ownsRow_nil w w.heap.size 5 1⟩,Below.refl _ _⟩
theorem sG (S sc:Nat)(a1:Option Addr)(n1 c1:Nat)(l1:List UInt8)(a2:Option Addr)(n2 c2:Nat)(l2:List UInt8)(w:World)(hn1:n1<=1000000)(hn2:n2<=1000000)
  (h1:Sl 1 ai w a1 n1 l1) (h2:Sl 1 ai w a2 n2 l2) (hs1:w.cell? ⟨S,0,none⟩=some (.slice a1 n1 c1)) (hs2:w.cell? ⟨S,1,none⟩=some (.slice a2 n2 c2)) :
  Calls Tryz.prog 94 #[.slice (some ⟨S,0,none⟩) 2 sc] w fun e w'=>(∃va vc,e=.returned (.slice va (n1+n2) vc)/\w'.ownsRow w.heap.size 5 1 (.slice va (n1+n2) vc) (n1+n2) (af (l1++l2)))/\Below w.heap.size w w':=by
 obtain⟨i0,hi0,hz0,hz1,hz2⟩:=eO
 have H1:=aa h1
 have H2:=aa h2
 have HA2:=aa h2
 have HS2:=aa hs2
 have b0:(0:Int)<=(n1:Int):=om
 have b1:(0:Int)<=(n2:Int):=om
 clear h1 h2
 go_enter Tryz.func94,Tryz.ntmps94
 go_wp2
 refine wp_loop_rounds 3 ?_
 rw[rounds_succ]
 go_wp2
 rw[rounds_succ]
 go_wp2
 rw[rounds_succ]
 go_wp2_with fail
 have e0:(n1:Int)+(n2:Int)=((n1+n2:Nat):Int):=om
 rw[e0]
 refine(yD (n1+n2) w om).mono ?_
 rintro e w2 ⟨⟨va,vc,rfl,hown⟩,hB2⟩
 have g1:=ag hB2 hs1
 have g2:=ag hB2 hs2
 have H1:=aa (H1.out.below ai.keeps hB2)
 have H2:=aa (H2.out.below ai.keeps hB2)
 have HOWN:=aa hown
 have hz2':=hB2.size
 clear hs1 hs2 hown e0
 go_upto_region 10 with (fail)
 go_wp2
 refine wp_loop_rounds 3 ?_
 rw[rounds_succ]
 obtain⟨p1,p2,p3,p4⟩:=bV H1.out
 have P1:=aa p1
 have P2:=aa p2
 have P3:=aa p3
 have P4:=aa p4
 clear p1 p2 p3 p4
 go_wp2_with (at_builtin;refine aD rfl (.tmp 31) (.tmp 32) 40 rfl w.heap.size 5 i0 (.int .u8 0) 1 1 Tryz.underlying40 hi0 hz0 hz1 hz2 rfl (by decide) (.slice va 0 vc) 0 [] rfl HOWN.out a1 n1 c1 (af l1) rfl P1.out P2.out P3.out P4.out ?c1 ?c2 hz2' ?_;rotate_right;intro va2 vc2 w3 hown3 hgrow3)
 ·have hB3:=hB2.grown hgrow3 hz2' (bU HOWN.out)
  have g2:=ag hB3 HS2.out
  rw[Nat.zero_add,List.nil_append]at hown3
  have HOWN3:=aa hown3
  have hz3':=hB3.size
  obtain⟨p1,p2,p3,p4⟩:=bV (HA2.out.below ai.keeps hB3)
  have P1:=aa p1
  have P2:=aa p2
  have P3:=aa p3
  have P4:=aa p4
  clear p1 p2 p3 p4 hB2 hgrow3 hown3
  rw[rounds_succ]
  go_wp2_with (at_builtin;refine aD rfl (.tmp 31) (.tmp 32) 40 rfl w.heap.size 5 i0 (.int .u8 0) 1 1 Tryz.underlying40 hi0 hz0 hz1 hz2 rfl (by decide) (.slice va2 n1 vc2) n1 (af l1) rfl HOWN3.out a2 n2 c2 (af l2) rfl P1.out P2.out P3.out P4.out ?c3 ?c4 hz3' ?_;rotate_right;intro va3 vc3 w4 hown4 hgrow4)
  ·have hB4:=hB3.grown hgrow4 hz3' (bU HOWN3.out)
   have hfin:w4.ownsRow w.heap.size 5 1 (.slice va3 (n1+n2) vc3) (n1+n2) (af (l1++l2)):=by
    simpa[af] using hown4
   have HF:=aa hfin
   clear hown4 hfin hgrow4
   rw[rounds_succ]
   go_wp2
   go_ret
   exact⟨⟨va3,vc3,by simp,HF.out⟩,hB4⟩
  ·unfold maxLen;omega
  ·omega
 ·unfold maxLen;omega
 ·omega
theorem np (s:ByteArray)(W:World):∃W2 c2,(convert 9 40 (.string s)).run Tryz.prog W=.ok (.slice (some ⟨W.heap.size,0,none⟩) s.size c2) W2/\Below W.heap.size W W2/\Sl 1 ai W2 (some ⟨W.heap.size,0,none⟩) s.size s.data.toList/\s.size<=c2:=by
 refine⟨_,_,Lib.run_convert_string_bytes (P:=Tryz.prog) W 9 40 5 s Tryz.underlying9 Tryz.underlying40 Tryz.underlying5,⟨rfl,rfl,rfl,?_,fun q hq=>Lib.bytesWorld_at_old W 5 s q hq⟩,⟨by simp,.inr ⟨W.heap.size,0,rfl,fun i x hx=>⟨[.int .u8 x.toNat],rfl,rfl,fun j v hv => ?_⟩⟩⟩,grownCap_ge W s.size 0 5⟩
 ·rw[Lib.bytesWorld_size];omega
 ·match j,hv with
  | 0,hv =>
   simp only[List.getElem?_cons_zero,Option.some.injEq]at hv
   subst hv
   have hi:i<s.size:=by have:=(List.getElem?_eq_some_iff.1 hx).1;simpa using this
   have:=Lib.bytesWorld_cell W 5 s i hi
   rw[show 0+i*1+0=i by omega,this]
   simp only[List.getD_eq_getElem?_getD,hx]
   rfl
theorem ez (l:List UInt8)(h:l.length=32):∃D:Array Value,D=(af l).toArray/\br l=.agg D/\(Tryz.prog.info? 48).map (·.size)=some D.size/\D.all (·.oneCell')=true/\D.size=32:=by
 have hs:(af l).toArray.size=32:=by simp[af,h]
 exact⟨_,rfl,rfl,by rw[hs];exact ey,je l,hs⟩
theorem bf (w:World)(o:Obj)(D:Array Value):Below w.heap.size w ((w.alloc o).setRow w.heap.size D):=below_setRow ((Below.refl _ w).alloc (Nat.le_refl _) o) (Nat.le_refl _) D
theorem oe (s:ByteArray)(a:Option Addr)(n c:Nat)(l:List UInt8)(w:World)(hs:s.size<=1000)(hn:n<=900000)(hi:dV w)(h:Sl 1 ai w a n l) :
  Calls Tryz.prog 52 #[.string s,.slice a n c] w fun e w'=>e=.returned (br (ik s.data.toList l))/\Below w.heap.size w w':=by
 have H:=aa h
 have HI:=aa hi
 clear h hi
 go_enter Tryz.func52,Tryz.ntmps52
 go_upto_region 1 with (fail)
 obtain⟨D0,hD0⟩:=zg w.heap.size
 obtain⟨w1,hw1⟩:=zg (w.alloc (.cells zI 48))
 rw[<-hw1,<-hD0]
 have hd1:ac w1 D0 48 (af (List.replicate 32 0)):=by rw[hw1,hD0];exact ak _ rfl
 have hB1:Below w.heap.size w w1:=by rw[hw1];exact(Below.refl _ w).alloc (Nat.le_refl _) _
 obtain⟨w2,c2,hcv,hB2,hs2,hc2⟩:=np s w1
 have HD1:=aa hd1
 have HD0:=aa hD0
 have HS2:=aa hs2
 have hz1:=hB1.size
 clear hw1 hD0 hd1 hs2
 go_wp2_with fail
 have hb2:=hB1.trans (hB2.mono hz1)
 refine(me _ s.size c2 s.data.toList w2 om hc2 (HI.out.below hb2) HS2.out).mono ?_
 obtain⟨D1,hD1,hdv1,hi1,ho1,hs1⟩:=ez (cL s.data.toList) (fv _)
 rw[hdv1]
 rintro e w3 ⟨rfl,hB3⟩
 have hb3:=hb2.trans (hB3.mono hb2.size)
 have hd3:ac w3 D0 48 (af (List.replicate 32 0)):=(HD1.out.below hB2 HD1.out.lt).below hB3 (by have:=hB2.size;have:=HD1.out.lt;omega)
 have HD3:=aa hd3
 have HI1:=aa hi1
 have HO1:=aa ho1
 have HS1:=aa hs1
 have HE1:=aa hD1
 clear hcv hB2 hB3 hb2 hB1 hz1 HD1 HS2 hd3 hdv1 hi1 ho1 hs1 hD1
 go_upto_region 2 with (refine wpList_store_row rfl 48 (.tmp 5) (.tmp 8) rfl w3.heap.size D1 ?e1 ?e2 48 zI (heap_alloc_new w3 _) HI1.out ?e3 HO1.out ?_;(case e1=>rfl);(case e2=>rfl);(case e3=>exact HS1.out.symm))
 obtain⟨T,hT⟩:=zg w3.heap.size
 obtain⟨w4,hw4⟩:=zg ((w3.alloc (.cells zI 48)).setRow w3.heap.size D1)
 rw[<-hw4,<-hT]
 have hS4:Below w3.heap.size w3 w4:=by rw[hw4];exact bf _ _ _
 have hr4:ac w4 T 48 (af (cL s.data.toList)):=by rw[hw4,hT];unfold ac;rw[<-HE1.out];exact setRow_heap _ _ _ _ _ _ (heap_alloc_new w3 _)
 have hb4:=hb3.trans (hS4.mono hb3.size)
 have HD4:=aa (HD3.out.below hS4 HD3.out.lt)
 have HR4:=aa hr4
 have hz4:=hb4.size
 clear hw4 hS4 hr4 hT hb3 HD3 HI1 HO1 HS1 HE1
 go_wp2_with fail
 obtain⟨S,hS⟩:=zg w4.heap.size
 have hBs:Below w4.heap.size w4 (w4.alloc (.cells #[.slice (some ⟨T,0,none⟩) 32 32,.slice a n c] 40)):=(Below.refl _ w4).alloc (Nat.le_refl _) _
 have hsb:=ak (w:=w4) (.cells #[.slice (some ⟨T,0,none⟩) 32 32,.slice a n c] 40) hS
 rw[<-hS]
 generalize w4.alloc (.cells #[.slice (some ⟨T,0,none⟩) 32 32,.slice a n c] 40)=w5 at *
 have hb5:=hb4.trans (hBs.mono hz4)
 obtain⟨_,g0,g1,_⟩:=Bp (Below.refl _ w5) hsb
 have hr5:ac w5 T 48 (af (cL s.data.toList)):=HR4.out.below hBs HR4.out.lt
 have hst:Sl 1 ai w5 (some ⟨T,0,none⟩) 32 (cL s.data.toList):=fs _ _ (fv _) hr5
 have HD5:=aa (HD4.out.below hBs HD4.out.lt)
 refine(sG S 2 (some ⟨T,0,none⟩) 32 32 (cL s.data.toList) a n c l w5 om om hst (H.out.below ai.keeps hb5) g0 g1).mono ?_
 rintro e w6 ⟨⟨va,vc,rfl,hown⟩,hB6⟩
 obtain⟨_,hvc,hsv⟩:=d8 (R:=ai) hown (cL s.data.toList++l) (by simp[fv,H.out.len]) (fun i x hx=>⟨_,by simp only[af,List.getElem?_map,hx];rfl,rfl⟩)
 have hb6:=hb5.trans (hB6.mono hb5.size)
 have HD6:=aa (HD5.out.below hB6 HD5.out.lt)
 have HSV:=aa hsv
 clear hBs hsb g0 g1 hr5 hst hown hsv hB6 hb5 hb4 hz4 HD4 HD5 HR4 hS
 go_wp2_with fail
 refine(me va (32+n) vc (cL s.data.toList++l) w6 om hvc (HI.out.below hb6) HSV.out).mono ?_
 obtain⟨D2,hD2,hdv2,hi2,ho2,hs2⟩:=ez (ik s.data.toList l) (kL _ _)
 have hdv3:br (cL (cL s.data.toList++l))=.agg D2:=hdv2
 rw[hdv3]
 rintro e w7 ⟨rfl,hB7⟩
 have hb7:=hb6.trans (hB7.mono hb6.size)
 have hd7:ac w7 D0 48 (af (List.replicate 32 0)):=HD6.out.below hB7 HD6.out.lt
 have HD7:=aa hd7
 have HI2:=aa hi2
 have HO2:=aa ho2
 have HS2:=aa hs2
 have HV2:=aa hdv2
 have hsz:Hid ((af (List.replicate 32 0)).toArray.size=32):=by simp[Hid,af]
 clear hB7 hb6 HD6 hi2 ho2 hs2 hD2 hdv2 hdv3 hd7
 go_wp2_with (refine wpList_store_row rfl 48 (.tmp 4) (.tmp 13) rfl D0 D2 ?e1 ?e2 48 _ HD7.out HI2.out ?e3 HO2.out ?_;(case e1=>rfl);(case e2=>rfl);(case e3=>exact hsz.out.trans HS2.out.symm))
 refine bodyPost_ret (results_cell_row rfl _ _ D0 48 D2 (0,0) _ rfl (setRow_heap _ _ _ _ _ _ HD7.out) Tryz.underlying48 rfl HI2.out) rfl ?_
 exact⟨by rw[HV2.out],below_setRow hb7 (by rw[HD0.out];exact Nat.le_refl _) _⟩
inductive aT where
 | int (n:Int)
 | text (s:List UInt8)
 | list (l:List aT)
def cB (u:Nat):List UInt8:=if h:u<128 then [UInt8.ofNat u] else UInt8.ofNat (u%128+128)::cB (u/128)
termination_by u
decreasing_by omega
theorem gU {u:Nat}(h:u<128):cB u=[UInt8.ofNat u]:=by rw[cB];simp[h]
theorem jf {u:Nat}(h:¬u<128):cB u=UInt8.ofNat (u%128+128)::cB (u/128):=by rw[cB];simp[h]
theorem yE (k u:Nat)(h:u<128 ^ k)(hk:1<=k):(cB u).length<=k:=by
 induction k generalizing u with
 | zero=>omega
 | succ k ih =>
  by_cases hu:u<128
  ·rw[gU hu];simp
  ·rw[jf hu]
   rcases Nat.eq_zero_or_pos k with rfl|hk1
   ·simp at h;omega
   ·have:=ih (u/128) (by rw[Nat.pow_succ]at h;omega) hk1
    simp only[List.length_cons]
    omega
theorem cH {u:Nat}(h:u<18446744073709551616):(cB u).length<=10:=yE 10 u om om
def eA (n:Int):Nat:=if 0<=n then (2*n).toNat else (-2*n-1).toNat
mutual
def aL : aT->List UInt8
 | .int n=>1::cB (eA n)
 | .text s=>2::(cB s.length++s)
 | .list l=>3::(cB l.length++bP l)
def bP : List aT->List UInt8
 | []=>[]
 | v::l=>aL v++bP l
end
theorem mL (l r:List aT):bP (l++r)=bP l++bP r:=by
 induction l with
 | nil=>simp[bP]
 | cons v l ih=>simp[bP,ih]
theorem iC (l:List aT)(k:Nat)(v:aT)(h:l[k]? = some v):bP (l.take (k+1))=bP (l.take k)++aL v:=by
 rw[cp l k v h,mL]
 simp[bP]
theorem eP (l:List aT)(k:Nat):(bP (l.take k)).length<=(bP l).length:=by
 have:=congrArg List.length (mL (l.take k) (l.drop k))
 rw[List.take_append_drop,List.length_append]at this
 omega
def aw (l:List UInt8):ByteArray:=⟨l.toArray⟩
def VR : Nat->World->List Value->aT->Prop
 | _,_,vs,.int n=>(-9223372036854775808<=n/\n<=9223372036854775807)/\∃a c,vs=[.int .i64 1,.int .i64 n,.string ⟨#[]⟩,.slice a 0 c]
 | _,_,vs,.text s=>∃a c,vs=[.int .i64 2,.int .i64 0,.string (aw s),.slice a 0 c]
 | 0,_,_,.list _=>False
 | d+1,w,vs,.list l=>∃a n c,vs=[.int .i64 3,.int .i64 0,.string ⟨#[]⟩,.slice a n c]/\n<=c/\Sl 4 (VR d) w a n l
theorem VR.below : ∀d,ju (VR d)
 | 0,w,w',vs,.int n,_,h=>by simp only[VR]at h ⊢;exact h
 | 0,w,w',vs,.text s,_,h=>by simp only[VR]at h ⊢;exact h
 | 0,w,w',vs,.list l,_,h=>by simp only[VR]at h
 | d+1,w,w',vs,.int n,_,h=>by simp only[VR]at h ⊢;exact h
 | d+1,w,w',vs,.text s,_,h=>by simp only[VR]at h ⊢;exact h
 | d+1,w,w',vs,.list l,hb,h=>by
  simp only[VR]at h ⊢
  obtain⟨a,n,c,h1,h2,h3⟩:=h
  exact⟨a,n,c,h1,h2,h3.below (VR.below d) hb⟩
theorem Sl.at4 {α:Type}{R:World->List Value->α->Prop}{w:World}{a:Option Addr}{n:Nat}{xs:List α}(h:Sl 4 R w a n xs) :
  n=0\/∃b off,a=some ⟨b,off,none⟩/\∀i x,xs[i]? = some x->∃v0 v1 v2 v3,R w [v0,v1,v2,v3] x/\w.cell? ⟨b,off+i*4,none⟩=some v0/\w.cell? ⟨b,off+i*4+1,none⟩=some v1/\w.cell? ⟨b,off+i*4+2,none⟩=some v2/\w.cell? ⟨b,off+i*4+3,none⟩=some v3:=by
 rcases h.2 with h0|⟨b,off,ha,hc⟩
 ·exact .inl h0
 ·refine .inr ⟨b,off,ha,fun i x hx => ?_⟩
  obtain⟨vs,hk,hr,hv⟩:=hc i x hx
  match vs,hk with
  | [v0,v1,v2,v3],_=>exact⟨v0,v1,v2,v3,hr,by simpa using hv 0 v0 rfl,hv 1 v1 rfl,hv 2 v2 rfl,hv 3 v3 rfl⟩
structure co (B:Nat)(w w':World):Prop where
 below:Below B w w'
 keep:∀(q:Nat) (C:Array Value) (t:TypeId) (fr:Nat × Nat),w.heap[q]? = some (.cells C t fr)->t≠5->w'.heap[q]? = some (.cells C t fr)
theorem co.refl (B:Nat)(w:World):co B w w:=⟨Below.refl _ _,fun _ _ _ _ h _=>h⟩
theorem co.trans {B:Nat}{a b c:World}(h:co B a b)(k:co B b c):co B a c:=⟨h.below.trans k.below,fun q C t fr hq ht=>k.keep q C t fr (h.keep q C t fr hq ht) ht⟩
theorem co.of_below {B:Nat}{w w':World}(h:Below w.heap.size w w')(hB:B<=w.heap.size):co B w w':=⟨h.mono hB,fun q _C _t _fr hq _=>(h.block q (Array.getElem?_eq_some_iff.1 hq).1).trans hq⟩
theorem co.of_grown {B:Nat}{w w':World}{v:Value}{n:Nat}{xs:List Value}(hg:w.grownBy w' v.ownBlock)(hown:w.ownsRow B 5 1 v n xs)(hB:B<=w.heap.size):co B w w':=
 ⟨(Below.refl B w).grown hg hB (bU hown),fun _q _C _t _fr hq ht=>bx hq hg (de hown hq ht)⟩
theorem co.alloc {B:Nat}{a w:World}(h:co B a w)(hB:B<=w.heap.size)(o:Obj):co B a (w.alloc o):=h.trans (co.of_below ((Below.refl _ w).alloc (Nat.le_refl _) o) hB)
theorem co.drew {B:Nat}{a w:World}(h:co B a w):co B a w.drew:=⟨h.below.drew,h.keep⟩
def qW (B:Nat)(w:World)(xs:List Value)(e:Ending)(w':World):Prop:=
 (∃va vc,e=.returned (.slice va xs.length vc)/\w'.ownsRow B 5 1 (.slice va xs.length vc) xs.length xs)/\co B w w'
end Go.Proofs.YtmflnpdmlfmcpaaGreatDoor.Dr
