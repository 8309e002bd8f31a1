/- Joined texts. -/
import Derived.Test.YtmflnpdmlfmcpaaGreatDoorJp11
namespace Go.Proofs.YtmflnpdmlfmcpaaGreatDoor
open Go.RowKit
variable {Nz : Nat}
theorem Ea {a1:Option Addr}{n1 c1:Nat}{a2:Option Addr}{n2 c2:Nat}{d d':aj}{i n:Int}{ba:Option Addr}{bn bc:Nat}{b:List UInt8}{w:World}(h:bF Nz w a1 n1 c1 a2 n2 c2 d)(hb:Sl 1 ai w ba bn b)(hbm:bn<=maxLen)(hd:d.write i b=(d',n)) :
  Calls Tryz.prog 69 #[.agg #[.slice a1 n1 c1,.slice a2 n2 c2,.int .i64 d.left,.bool d.stopped],.int .i64 i,.slice ba bn bc] w fun e w'=>i6 Nz e w' d' n/\Below w.heap.size w w':=
 (Dx a1 n1 c1 a2 n2 c2 d i ba bn bc b w h hb hbm).mono fun _ _ ⟨h1,h2⟩=>⟨ly h1 hd,h2⟩
theorem El {a1:Option Addr}{n1 c1:Nat}{a2:Option Addr}{n2 c2:Nat}{d d':aj}{n:Int}{w:World}(h:bF Nz w a1 n1 c1 a2 n2 c2 d)(hd:d.sync=(d',n)) :
  Calls Tryz.prog 71 #[.agg #[.slice a1 n1 c1,.slice a2 n2 c2,.int .i64 d.left,.bool d.stopped]] w fun e w'=>i6 Nz e w' d' n/\Below w.heap.size w w':=
 (DU a1 n1 c1 a2 n2 c2 d w h).mono fun _ _ ⟨h1,h2⟩=>⟨ly h1 hd,h2⟩
end Go.Proofs.YtmflnpdmlfmcpaaGreatDoor
