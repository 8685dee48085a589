/- A part of the proofs of this claim: what functions of the program answer on an abstract machine, and plain laws. No condition. -/
import Derived.Test.YtbocegmeciaanaaGreatD2
import Derived.Test.YtbocegmeciaanaaGreatRows
import Derived.KernelRfl
set_option linter.unusedVariables false
set_option linter.unusedSimpArgs false
set_option linter.unusedSectionVars false
namespace Go.V
open Go.Ab Go.Proofs
abbrev u2 {a b c:Type}(f:a→b→c)(t:a×b):c:=f t.1 t.2
abbrev u3 {x0 x1 x2 x3:Type}(f:x0→x1→x2→x3)(t:x0×x1×x2):x3:=u2 (f t.1) t.2
abbrev u4 {x0 x1 x2 x3 x4:Type}(f:x0→x1→x2→x3→x4)(t:x0×x1×x2×x3):x4:=u3 (f t.1) t.2
abbrev u5 {x0 x1 x2 x3 x4 x5:Type}(f:x0→x1→x2→x3→x4→x5)(t:x0×x1×x2×x3×x4):x5:=u4 (f t.1) t.2
abbrev u6 {x0 x1 x2 x3 x4 x5 x6:Type}(f:x0→x1→x2→x3→x4→x5→x6)(t:x0×x1×x2×x3×x4×x5):x6:=u5 (f t.1) t.2
abbrev u7 {x0 x1 x2 x3 x4 x5 x6 x7:Type}(f:x0→x1→x2→x3→x4→x5→x6→x7)(t:x0×x1×x2×x3×x4×x5×x6):x7:=u6 (f t.1) t.2
abbrev u8 {x0 x1 x2 x3 x4 x5 x6 x7 x8:Type}(f:x0→x1→x2→x3→x4→x5→x6→x7→x8)(t:x0×x1×x2×x3×x4×x5×x6×x7):x8:=u7 (f t.1) t.2
abbrev u9 {x0 x1 x2 x3 x4 x5 x6 x7 x8 x9:Type}(f:x0→x1→x2→x3→x4→x5→x6→x7→x8→x9)(t:x0×x1×x2×x3×x4×x5×x6×x7×x8):x9:=u8 (f t.1) t.2
abbrev u10 {x0 x1 x2 x3 x4 x5 x6 x7 x8 x9 x10:Type}(f:x0→x1→x2→x3→x4→x5→x6→x7→x8→x9→x10)(t:x0×x1×x2×x3×x4×x5×x6×x7×x8×x9):x10:=u9 (f t.1) t.2
abbrev u11 {x0 x1 x2 x3 x4 x5 x6 x7 x8 x9 x10 x11:Type}(f:x0→x1→x2→x3→x4→x5→x6→x7→x8→x9→x10→x11)(t:x0×x1×x2×x3×x4×x5×x6×x7×x8×x9×x10):x11:=u10 (f t.1) t.2
abbrev u12 {x0 x1 x2 x3 x4 x5 x6 x7 x8 x9 x10 x11 x12:Type}(f:x0→x1→x2→x3→x4→x5→x6→x7→x8→x9→x10→x11→x12)(t:x0×x1×x2×x3×x4×x5×x6×x7×x8×x9×x10×x11):x12:=u11 (f t.1) t.2
abbrev u13 {x0 x1 x2 x3 x4 x5 x6 x7 x8 x9 x10 x11 x12 x13:Type}(f:x0→x1→x2→x3→x4→x5→x6→x7→x8→x9→x10→x11→x12→x13)(t:x0×x1×x2×x3×x4×x5×x6×x7×x8×x9×x10×x11×x12):x13:=u12 (f t.1) t.2
abbrev u14 {x0 x1 x2 x3 x4 x5 x6 x7 x8 x9 x10 x11 x12 x13 x14:Type}(f:x0→x1→x2→x3→x4→x5→x6→x7→x8→x9→x10→x11→x12→x13→x14)(t:x0×x1×x2×x3×x4×x5×x6×x7×x8×x9×x10×x11×x12×x13):x14:=u13 (f t.1) t.2
abbrev u15 {x0 x1 x2 x3 x4 x5 x6 x7 x8 x9 x10 x11 x12 x13 x14 x15:Type}(f:x0→x1→x2→x3→x4→x5→x6→x7→x8→x9→x10→x11→x12→x13→x14→x15)(t:x0×x1×x2×x3×x4×x5×x6×x7×x8×x9×x10×x11×x12×x13×x14):x15:=u14 (f t.1) t.2
abbrev u16 {x0 x1 x2 x3 x4 x5 x6 x7 x8 x9 x10 x11 x12 x13 x14 x15 x16:Type}(f:x0→x1→x2→x3→x4→x5→x6→x7→x8→x9→x10→x11→x12→x13→x14→x15→x16)(t:x0×x1×x2×x3×x4×x5×x6×x7×x8×x9×x10×x11×x12×x13×x14×x15):x16:=u15 (f t.1) t.2
abbrev u17 {x0 x1 x2 x3 x4 x5 x6 x7 x8 x9 x10 x11 x12 x13 x14 x15 x16 x17:Type}(f:x0→x1→x2→x3→x4→x5→x6→x7→x8→x9→x10→x11→x12→x13→x14→x15→x16→x17)(t:x0×x1×x2×x3×x4×x5×x6×x7×x8×x9×x10×x11×x12×x13×x14×x15×x16):x17:=u16 (f t.1) t.2
abbrev u18 {x0 x1 x2 x3 x4 x5 x6 x7 x8 x9 x10 x11 x12 x13 x14 x15 x16 x17 x18:Type}(f:x0→x1→x2→x3→x4→x5→x6→x7→x8→x9→x10→x11→x12→x13→x14→x15→x16→x17→x18)(t:x0×x1×x2×x3×x4×x5×x6×x7×x8×x9×x10×x11×x12×x13×x14×x15×x16×x17):x18:=u17 (f t.1) t.2
abbrev u19 {x0 x1 x2 x3 x4 x5 x6 x7 x8 x9 x10 x11 x12 x13 x14 x15 x16 x17 x18 x19:Type}(f:x0→x1→x2→x3→x4→x5→x6→x7→x8→x9→x10→x11→x12→x13→x14→x15→x16→x17→x18→x19)(t:x0×x1×x2×x3×x4×x5×x6×x7×x8×x9×x10×x11×x12×x13×x14×x15×x16×x17×x18):x19:=u18 (f t.1) t.2
abbrev u20 {x0 x1 x2 x3 x4 x5 x6 x7 x8 x9 x10 x11 x12 x13 x14 x15 x16 x17 x18 x19 x20:Type}(f:x0→x1→x2→x3→x4→x5→x6→x7→x8→x9→x10→x11→x12→x13→x14→x15→x16→x17→x18→x19→x20)(t:x0×x1×x2×x3×x4×x5×x6×x7×x8×x9×x10×x11×x12×x13×x14×x15×x16×x17×x18×x19):x20:=u19 (f t.1) t.2
abbrev u21 {x0 x1 x2 x3 x4 x5 x6 x7 x8 x9 x10 x11 x12 x13 x14 x15 x16 x17 x18 x19 x20 x21:Type}(f:x0→x1→x2→x3→x4→x5→x6→x7→x8→x9→x10→x11→x12→x13→x14→x15→x16→x17→x18→x19→x20→x21)(t:x0×x1×x2×x3×x4×x5×x6×x7×x8×x9×x10×x11×x12×x13×x14×x15×x16×x17×x18×x19×x20):x21:=u20 (f t.1) t.2
abbrev u22 {x0 x1 x2 x3 x4 x5 x6 x7 x8 x9 x10 x11 x12 x13 x14 x15 x16 x17 x18 x19 x20 x21 x22:Type}(f:x0→x1→x2→x3→x4→x5→x6→x7→x8→x9→x10→x11→x12→x13→x14→x15→x16→x17→x18→x19→x20→x21→x22)(t:x0×x1×x2×x3×x4×x5×x6×x7×x8×x9×x10×x11×x12×x13×x14×x15×x16×x17×x18×x19×x20×x21):x22:=u21 (f t.1) t.2
abbrev u23 {x0 x1 x2 x3 x4 x5 x6 x7 x8 x9 x10 x11 x12 x13 x14 x15 x16 x17 x18 x19 x20 x21 x22 x23:Type}(f:x0→x1→x2→x3→x4→x5→x6→x7→x8→x9→x10→x11→x12→x13→x14→x15→x16→x17→x18→x19→x20→x21→x22→x23)(t:x0×x1×x2×x3×x4×x5×x6×x7×x8×x9×x10×x11×x12×x13×x14×x15×x16×x17×x18×x19×x20×x21×x22):x23:=u22 (f t.1) t.2
abbrev u24 {x0 x1 x2 x3 x4 x5 x6 x7 x8 x9 x10 x11 x12 x13 x14 x15 x16 x17 x18 x19 x20 x21 x22 x23 x24:Type}(f:x0→x1→x2→x3→x4→x5→x6→x7→x8→x9→x10→x11→x12→x13→x14→x15→x16→x17→x18→x19→x20→x21→x22→x23→x24)(t:x0×x1×x2×x3×x4×x5×x6×x7×x8×x9×x10×x11×x12×x13×x14×x15×x16×x17×x18×x19×x20×x21×x22×x23):x24:=u23 (f t.1) t.2
abbrev u25 {x0 x1 x2 x3 x4 x5 x6 x7 x8 x9 x10 x11 x12 x13 x14 x15 x16 x17 x18 x19 x20 x21 x22 x23 x24 x25:Type}(f:x0→x1→x2→x3→x4→x5→x6→x7→x8→x9→x10→x11→x12→x13→x14→x15→x16→x17→x18→x19→x20→x21→x22→x23→x24→x25)(t:x0×x1×x2×x3×x4×x5×x6×x7×x8×x9×x10×x11×x12×x13×x14×x15×x16×x17×x18×x19×x20×x21×x22×x23×x24):x25:=u24 (f t.1) t.2
abbrev u26 {x0 x1 x2 x3 x4 x5 x6 x7 x8 x9 x10 x11 x12 x13 x14 x15 x16 x17 x18 x19 x20 x21 x22 x23 x24 x25 x26:Type}(f:x0→x1→x2→x3→x4→x5→x6→x7→x8→x9→x10→x11→x12→x13→x14→x15→x16→x17→x18→x19→x20→x21→x22→x23→x24→x25→x26)(t:x0×x1×x2×x3×x4×x5×x6×x7×x8×x9×x10×x11×x12×x13×x14×x15×x16×x17×x18×x19×x20×x21×x22×x23×x24×x25):x26:=u25 (f t.1) t.2
abbrev u27 {x0 x1 x2 x3 x4 x5 x6 x7 x8 x9 x10 x11 x12 x13 x14 x15 x16 x17 x18 x19 x20 x21 x22 x23 x24 x25 x26 x27:Type}(f:x0→x1→x2→x3→x4→x5→x6→x7→x8→x9→x10→x11→x12→x13→x14→x15→x16→x17→x18→x19→x20→x21→x22→x23→x24→x25→x26→x27)(t:x0×x1×x2×x3×x4×x5×x6×x7×x8×x9×x10×x11×x12×x13×x14×x15×x16×x17×x18×x19×x20×x21×x22×x23×x24×x25×x26):x27:=u26 (f t.1) t.2
abbrev u28 {x0 x1 x2 x3 x4 x5 x6 x7 x8 x9 x10 x11 x12 x13 x14 x15 x16 x17 x18 x19 x20 x21 x22 x23 x24 x25 x26 x27 x28:Type}(f:x0→x1→x2→x3→x4→x5→x6→x7→x8→x9→x10→x11→x12→x13→x14→x15→x16→x17→x18→x19→x20→x21→x22→x23→x24→x25→x26→x27→x28)(t:x0×x1×x2×x3×x4×x5×x6×x7×x8×x9×x10×x11×x12×x13×x14×x15×x16×x17×x18×x19×x20×x21×x22×x23×x24×x25×x26×x27):x28:=u27 (f t.1) t.2
abbrev u29 {x0 x1 x2 x3 x4 x5 x6 x7 x8 x9 x10 x11 x12 x13 x14 x15 x16 x17 x18 x19 x20 x21 x22 x23 x24 x25 x26 x27 x28 x29:Type}(f:x0→x1→x2→x3→x4→x5→x6→x7→x8→x9→x10→x11→x12→x13→x14→x15→x16→x17→x18→x19→x20→x21→x22→x23→x24→x25→x26→x27→x28→x29)(t:x0×x1×x2×x3×x4×x5×x6×x7×x8×x9×x10×x11×x12×x13×x14×x15×x16×x17×x18×x19×x20×x21×x22×x23×x24×x25×x26×x27×x28):x29:=u28 (f t.1) t.2
abbrev u30 {x0 x1 x2 x3 x4 x5 x6 x7 x8 x9 x10 x11 x12 x13 x14 x15 x16 x17 x18 x19 x20 x21 x22 x23 x24 x25 x26 x27 x28 x29 x30:Type}(f:x0→x1→x2→x3→x4→x5→x6→x7→x8→x9→x10→x11→x12→x13→x14→x15→x16→x17→x18→x19→x20→x21→x22→x23→x24→x25→x26→x27→x28→x29→x30)(t:x0×x1×x2×x3×x4×x5×x6×x7×x8×x9×x10×x11×x12×x13×x14×x15×x16×x17×x18×x19×x20×x21×x22×x23×x24×x25×x26×x27×x28×x29):x30:=u29 (f t.1) t.2
abbrev u31 {x0 x1 x2 x3 x4 x5 x6 x7 x8 x9 x10 x11 x12 x13 x14 x15 x16 x17 x18 x19 x20 x21 x22 x23 x24 x25 x26 x27 x28 x29 x30 x31:Type}(f:x0→x1→x2→x3→x4→x5→x6→x7→x8→x9→x10→x11→x12→x13→x14→x15→x16→x17→x18→x19→x20→x21→x22→x23→x24→x25→x26→x27→x28→x29→x30→x31)(t:x0×x1×x2×x3×x4×x5×x6×x7×x8×x9×x10×x11×x12×x13×x14×x15×x16×x17×x18×x19×x20×x21×x22×x23×x24×x25×x26×x27×x28×x29×x30):x31:=u30 (f t.1) t.2
abbrev u32 {x0 x1 x2 x3 x4 x5 x6 x7 x8 x9 x10 x11 x12 x13 x14 x15 x16 x17 x18 x19 x20 x21 x22 x23 x24 x25 x26 x27 x28 x29 x30 x31 x32:Type}(f:x0→x1→x2→x3→x4→x5→x6→x7→x8→x9→x10→x11→x12→x13→x14→x15→x16→x17→x18→x19→x20→x21→x22→x23→x24→x25→x26→x27→x28→x29→x30→x31→x32)(t:x0×x1×x2×x3×x4×x5×x6×x7×x8×x9×x10×x11×x12×x13×x14×x15×x16×x17×x18×x19×x20×x21×x22×x23×x24×x25×x26×x27×x28×x29×x30×x31):x32:=u31 (f t.1) t.2
abbrev u33 {x0 x1 x2 x3 x4 x5 x6 x7 x8 x9 x10 x11 x12 x13 x14 x15 x16 x17 x18 x19 x20 x21 x22 x23 x24 x25 x26 x27 x28 x29 x30 x31 x32 x33:Type}(f:x0→x1→x2→x3→x4→x5→x6→x7→x8→x9→x10→x11→x12→x13→x14→x15→x16→x17→x18→x19→x20→x21→x22→x23→x24→x25→x26→x27→x28→x29→x30→x31→x32→x33)(t:x0×x1×x2×x3×x4×x5×x6×x7×x8×x9×x10×x11×x12×x13×x14×x15×x16×x17×x18×x19×x20×x21×x22×x23×x24×x25×x26×x27×x28×x29×x30×x31×x32):x33:=u32 (f t.1) t.2
abbrev u34 {x0 x1 x2 x3 x4 x5 x6 x7 x8 x9 x10 x11 x12 x13 x14 x15 x16 x17 x18 x19 x20 x21 x22 x23 x24 x25 x26 x27 x28 x29 x30 x31 x32 x33 x34:Type}(f:x0→x1→x2→x3→x4→x5→x6→x7→x8→x9→x10→x11→x12→x13→x14→x15→x16→x17→x18→x19→x20→x21→x22→x23→x24→x25→x26→x27→x28→x29→x30→x31→x32→x33→x34)(t:x0×x1×x2×x3×x4×x5×x6×x7×x8×x9×x10×x11×x12×x13×x14×x15×x16×x17×x18×x19×x20×x21×x22×x23×x24×x25×x26×x27×x28×x29×x30×x31×x32×x33):x34:=u33 (f t.1) t.2
set_option maxRecDepth 100000
abbrev x :Sh:=(.int .i64)
abbrev bk :Sh:=(.int .u64)
abbrev ah :Sh:=(.list bk)
abbrev bx :Sh:=(.pair x bk)
abbrev bz :Sh:=(.pair x bx)
abbrev ca :Sh:=(.pair x (.pair bk x))
abbrev cb :Sh:=(.pair x bz)
abbrev cc :Sh:=(.pair x ca)
abbrev az :Sh:=(.pair x cb)
abbrev cd :Sh:=(.pair x cc)
abbrev bu :Sh:=(.list az)
abbrev bh :Sh:=(.pair x cd)
abbrev j :Sk:=(.full 1)
abbrev p :Sk:=(.full 2)
abbrev r :Sk:=(.full 4)
abbrev v :Sk:=(.full 5)
abbrev q :Sk:=(.full 3)
abbrev aq :Sk:=(.full 6)
abbrev f :Sk:=(.ptr 0 0)
abbrev av :Sk:=(.ptr 6 0)
abbrev ba :Sk:=(.ptr 7 0)
abbrev bg :Sk:=(.ptr 8 0)
abbrev ao :Sk:=(.ptr 9 0)
abbrev bl :Sk:=(.full 12)
abbrev bm :Sk:=(.full 13)
abbrev bn :Sk:=(.full 14)
abbrev bo :Sk:=(.full 15)
abbrev bp :Sk:=(.full 16)
abbrev bv :Sk:=(.full 17)
abbrev a :Sk:=(.leaf x)
abbrev h :Sk:=(.leaf bk)
abbrev bq :Sk:=(.ptr 18 0)
abbrev bs :Sk:=(.ptr 19 0)
abbrev bw :Sk:=(.ptr 17 0)
abbrev ai :Sk:=(.leaf bu)
abbrev k :Sk:=(.leaf .bool)
abbrev ap :Sk:=(.agg [a,ai])
abbrev bi :Sk:=(.agg [a,a,a,a,h])
abbrev aw :Sk:=(.agg [a,(.leaf ah),(.leaf ah),a,ai,a,ai,a,a])
abbrev bt :Sk:=(.agg [h,h,h,h,h,h,h,h,h,h,h,h,h,h,h,h])
abbrev c :OSk:=(.arr true bk)
abbrev g :OSk:=(.arr true az)
abbrev i :OSk:=(.arr true x)
abbrev l :OSk:=(.arr false x)
abbrev b :OSk:=(.arr false bk)
abbrev af :OSk:=(.cells 1 true [(.full 8),a])
abbrev aj :OSk:=(.cells 1 true [(.full 9),a])
abbrev m :OSk:=(.cells 1 true [a,a,a])
abbrev d :OSk:=(.cells 1 false [a,a,a])
abbrev ag :OSk:=(.cells 1 true [a,a,a,av])
abbrev bb :OSk:=(.cells 1 false [a,a,a,a,j])
abbrev bj :OSk:=(.cells 1 false [h,h,h,h,h,h,h,h])
abbrev ax :OSk:=(.cells 1 true [a,a,a,a,a,j,p,a,q,a,r,a,a,v,av,ba,bg,a,a,a,a,a,a,a,h])
abbrev ay :OSk:=(.cells 1 true [a,a,a,a,a,j,p,a,q,a,r,a,a,v,av, .nilp,ba,a,a,a,a,a,a,a,h])
abbrev ar :OSk:=(.cells 1 false [a,a,a,a,a,j,p,a,q,a,r,a,a,v,av,ba,bg,a,a,a,a,a,a,a,h])
abbrev ad :OSk:=(.cells 1 false [a,a,a,a,a,p,q,a,r,a,v,a,a,aq,ba,bg,ao,a,a,a,a,a,a,a,h])
abbrev bc :OSk:=(.cells 1 false [a,a,a,a,a,bl,bm,a,bn,a,bo,a,a,bp,bw,bq,bs,a,a,a,a,a,a,a,h])
abbrev au :OSk:=(.cells 1 false [a,a,a,a,a,j,p,a,q,a,r,a,a,v,av, .nilp,ba,a,a,a,a,a,a,a,h])
abbrev ae :OSk:=(.cells 1 false [a,a,a,a,a,p,q,a,r,a,v,a,a,aq,ba, .nilp,bg,a,a,a,a,a,a,a,h])
abbrev bd :OSk:=(.cells 1 false [a,a,a,a,a,bm,bn,a,bo,a,bp,a,a,bv,bq, .nilp,bs,a,a,a,a,a,a,a,h])
abbrev be :OSk:=(.cells 1 false [a,a,a,a,a,bl,bm,a,bn,a,bo,a,a,bp,bw, .nilp,bq,a,a,a,a,a,a,a,h])
abbrev br :OSk:=(.cells 1 true [a,a,a,a,a,j,p,a,q,a,r,a,a,v, .nilp, .nilp, .nilp,a,a,a,a,a,a,a,h])
abbrev bf :OSk:=(.cells 1 false [a,a,a,a,a,bm,bn,a,bo,a,bp,a,a,bv,bq,bs,(.ptr 20 0),a,a,a,a,a,a,a,h])
abbrev w :Alt:=⟨.ret,[],⟨[k],[],[]⟩⟩
abbrev o :Alt:=⟨.ret,[],⟨[a],[],[]⟩⟩
abbrev ak :Alt:=⟨.normal,[],⟨[],[ad,d,b,bf,d,b],[]⟩⟩
abbrev al :Alt:=⟨.normal,[],⟨[],[ad,d,b,bd,d,b],[]⟩⟩
abbrev am :Alt:=⟨.normal,[],⟨[],[ae,d,b,bc,d,b],[]⟩⟩
abbrev an :Alt:=⟨.normal,[],⟨[],[ae,d,b,be,d,b],[]⟩⟩
abbrev y :Alt:=⟨.ret,[6],⟨[k],[ad,d,b,bf,d,b],[]⟩⟩
abbrev aa :Alt:=⟨.ret,[6],⟨[k],[ad,d,b,bd,d,b],[]⟩⟩
abbrev ab :Alt:=⟨.ret,[6],⟨[k],[ae,d,b,bc,d,b],[]⟩⟩
abbrev ac :Alt:=⟨.ret,[6],⟨[k],[ae,d,b,be,d,b],[]⟩⟩
def bb5 :FSum:=⟨55,[aw,a],[],[w],u10 yn⟩
theorem bc5 :ci Tryz.prog bb5:=aB (at':= .no) (.nil _) (fun _=>by kernel_rfl)
def bk9 :FSum:=⟨249,[ai],[],[w],rE⟩
theorem ab5 :ci Tryz.prog bk9:=aB (at':=(.n .no (.n .no (.n (.n .no (.n (.lp [] ⟨.normal,[4,3],⟨[a,a],[],[]⟩⟩ [⟨.ret,[2],⟨[k],[],[]⟩⟩,⟨(.exit 0),[3],⟨[a],[],[]⟩⟩] (.n .no (.n (.n (.n .no (.jn [] [] [⟨.normal,[3],⟨[a],[],[]⟩⟩] .no .no)) .no) .no))) .no)) .no)))) (.nil _) (fun _=>by kernel_rfl)
def bk7 :FSum:=⟨250,[a],[],[⟨.ret,[],⟨[(.agg [k,k,k,k])],[],[]⟩⟩],nq⟩
theorem ab4 :ci Tryz.prog bk7:=aB (at':=(.n .no (.jn [0] [] [⟨.ret,[],⟨[],[(.cells 1 false [k,k,k,k])],[]⟩⟩,⟨.normal,[],⟨[],[(.cells 1 false [k,k,k,k])],[]⟩⟩] .no .no))) (.nil _) (fun _=>by kernel_rfl)
def bb8 :FSum:=⟨323,[bi],[],[w],u5 uF⟩
theorem bc8 :ci Tryz.prog bb8:=aB (at':=(.n .no (.n .no (.n .no (.n .no (.n (.n .no (.n (.lp [] ⟨.normal,[5],⟨[a],[],[]⟩⟩ [⟨.ret,[2],⟨[k],[],[]⟩⟩,⟨(.exit 0),[],⟨[],[],[]⟩⟩] .no) .no)) .no)))))) (.cons ab4 (.nil _)) (fun _=>by kernel_rfl)
def bl3 :FSum:=⟨283,[ap],[],[w],u2 wm⟩
theorem bn0 :ci Tryz.prog bl3:=aB (at':=(.n .no (.n .no (.n (.n .no (.n (.lp [] ⟨.normal,[3],⟨[a],[],[]⟩⟩ [⟨.ret,[2],⟨[k],[],[]⟩⟩,⟨(.exit 0),[],⟨[],[],[]⟩⟩] .no) .no)) .no)))) (.cons ab5 (.cons bc8 (.nil _))) (fun _=>by kernel_rfl)
def aB1 :FSum:=⟨284,[ap],[],[w],u2 qV⟩
theorem aB6 :ci Tryz.prog aB1:=aB (at':=(.n .no (.n .no (.n (.n .no (.n (.lp [] ⟨.normal,[3],⟨[a],[],[]⟩⟩ [⟨.ret,[2],⟨[k],[],[]⟩⟩,⟨(.exit 0),[],⟨[],[],[]⟩⟩] .no) .no)) .no)))) (.cons ab4 (.nil _)) (fun _=>by kernel_rfl)
def aR8 :FSum:=⟨324,[ai,a],[],[o],u2 tC⟩
theorem aT0 :ci Tryz.prog aR8:=aB (at':=(.n .no (.n .no (.n (.n .no (.n (.lp [] ⟨.normal,[6,5],⟨[a,a],[],[]⟩⟩ [⟨(.exit 0),[5],⟨[a],[],[]⟩⟩] .no) .no)) .no)))) (.nil _) (fun _=>by kernel_rfl)
def bk8 :FSum:=⟨285,[ai],[],[⟨.ret,[],⟨[(.tup [a,a])],[],[]⟩⟩],wk⟩
theorem bm6 :ci Tryz.prog bk8:=aB (at':=(.n .no (.n .no (.n .no (.n (.n .no (.n (.lp [] ⟨.normal,[5,4],⟨[a,a],[],[]⟩⟩ [⟨(.exit 0),[4],⟨[a],[],[]⟩⟩] .no) .no)) .no))))) (.cons ab5 (.cons aT0 (.nil _))) (fun _=>by kernel_rfl)
def bb9 :FSum:=⟨195,[ai],[],[⟨.ret,[],⟨[(.tup [(.full 0),a])],[],[l]⟩⟩],sd⟩
theorem bc9 :ci Tryz.prog bb9:=aB (at':=(.n .no (.n .no (.n .no (.n (.n .no (.n (.lp [] ⟨.normal,[5,4],⟨[a,j],[],[l]⟩⟩ [⟨(.exit 0),[4],⟨[j],[],[l]⟩⟩] .no) .no)) (.n (.n .no (.n (.lp [1] ⟨.normal,[6],⟨[a],[l],[]⟩⟩ [⟨(.exit 2),[],⟨[],[l],[]⟩⟩] (.n .no (.n (.n (.n .no (.n .no (.n .no (.n (.n (.lp [] ⟨.normal,[7,8],⟨[a,a],[],[]⟩⟩ [⟨(.exit 4),[8],⟨[a],[],[]⟩⟩] .no) .no) .no)))) .no) .no))) .no)) .no)))))) (.cons ab5 (.nil _)) (fun _=>by kernel_rfl)
def aG4 (n:Nat):FSum:=⟨197,[ai,(.leaf (.list x)),a,a],[],[o],fun t=>(df n).1 t.1 t.2.1 t.2.2.1 t.2.2.2⟩
def aN5 (n:Nat):FSum:=⟨196,[ai,(.leaf (.list x)),a],[],[o],fun t=>(df n).2 t.1 t.2.1 t.2.2⟩
theorem qv : ∀n,ci Tryz.prog (aG4 n)∧ci Tryz.prog (aN5 n)
 |0=>⟨aY9 (fun t=>rfl),aY9 (fun t=>rfl)⟩
 |n+1=>⟨aB (at':=(.n .no (.n .no (.n (.n .no (.n (.lp [] ⟨.normal,[10,9],⟨[a,a],[],[]⟩⟩ [⟨.ret,[8],⟨[(.cint .i64 65537)],[],[]⟩⟩,⟨(.exit 0),[9],⟨[a],[],[]⟩⟩] .no) .no)) .no)))) (.cons (qv n).2 (.cons ab4 (.nil _))) (fun _=>by kernel_rfl),aB (at':= .no) (.cons (qv n).1 (.nil _)) (fun _=>by kernel_rfl)⟩
def aS0 :FSum:=⟨197,[ai,(.leaf (.list x)),a,a],[],[o],u4 pn⟩
theorem aT1 :ci Tryz.prog aS0:=(qv 400).1
def bc0 :FSum:=⟨196,[ai,(.leaf (.list x)),a],[],[o],u3 uG⟩
theorem bd0 :ci Tryz.prog bc0:=(qv 400).2
def aR9 :FSum:=⟨124,[ai],[],[⟨.ret,[],⟨[(.tup [a,a])],[],[]⟩⟩],pm⟩
theorem al9 :ci Tryz.prog aR9:=aB (at':=(.n .no (.n .no (.n .no (.n (.n .no (.n (.lp [] ⟨.normal,[6],⟨[a],[],[]⟩⟩ [⟨.ret,[2,3],⟨[(.cint .i64 0),(.cint .i64 9)],[],[]⟩⟩,⟨(.exit 0),[],⟨[],[],[]⟩⟩] .no) .no)) .no))))) (.cons bc9 (.cons bd0 (.cons aT1 (.nil _)))) (fun _=>by kernel_rfl)
def bl1 :FSum:=⟨248,[ap,a],[],[o],u3 tD⟩
theorem bm8 :ci Tryz.prog bl1:=aB (at':= .no) (.cons bn0 (.cons aB6 (.cons bm6 (.cons al9 (.nil _))))) (fun _=>by kernel_rfl)
def bl2 :FSum:=⟨193,[ap,ap],[],[o],u4 wl⟩
theorem bm9 :ci Tryz.prog bl2:=aB (at':=(.n .no (.n (.n .no (.n (.lp [] ⟨.normal,[5],⟨[a],[],[]⟩⟩ [⟨.ret,[4],⟨[a],[],[]⟩⟩,⟨(.exit 0),[],⟨[],[],[]⟩⟩] .no) .no)) .no))) (.cons bm8 (.nil _)) (fun _=>by kernel_rfl)
def bl0 :FSum:=⟨194,[ap,ap,a,a],[],[o],u6 rF⟩
theorem bm7 :ci Tryz.prog bl0:=aB (at':= .no) (.nil _) (fun _=>by kernel_rfl)
def bc1 :FSum:=⟨123,[aw],[],[o],u9 uH⟩
theorem bd1 :ci Tryz.prog bc1:=aB (at':= .no) (.cons bm9 (.cons bm7 (.nil _))) (fun _=>by kernel_rfl)
def bE0 :FSum:=⟨56,[aw],[],[⟨.ret,[],⟨[(.tup [a,a])],[],[]⟩⟩],u9 zt⟩
theorem bE3 :ci Tryz.prog bE0:=aB (at':= .no) (.cons bd1 (.cons al9 (.nil _))) (fun _=>by kernel_rfl)
def bb6 :FSum:=⟨10,[aw],[],[w],u9 rZ⟩
theorem bc6 :ci Tryz.prog bb6:=aB (at':= .no) (.cons bc5 (.cons bE3 (.nil _))) (fun _=>by kernel_rfl)
def aN3 :FSum:=⟨57,[],[],[⟨.ret,[],⟨[(.agg [(.cint .i64 1),(.full 0),j,(.cint .i64 3),p,(.cint .i64 2), .nils,(.cint .i64 3),(.cint .i64 100)])],[],[(.cells 1 false [(.cint .u64 5)]),(.cells 1 false [(.cint .u64 2)]),(.cells 5 false [(.cint .i64 1),(.cint .i64 0),(.cint .i64 0),(.cint .i64 2),(.cint .u64 0)])]⟩⟩],fun _=>ad9⟩
theorem aO0 :ci Tryz.prog aN3:=aB (at':= .no) (.nil _) (fun _=>by kernel_rfl)
def bb4 :FSum:=⟨286,[k,a],[],[o],u2 lj⟩
theorem yB :ci Tryz.prog bb4:=aB (at':= .no) (.nil _) (fun _=>by kernel_rfl)
def aj9 :FSum:=⟨251,[aw],[],[o],u9 jv⟩
theorem al6 :ci Tryz.prog aj9:=aB (at':= .no) (.cons yB (.nil _)) (fun _=>by kernel_rfl)
def bk4 :FSum:=⟨327,[ai],[],[⟨.ret,[],⟨[(.tup [(.full 0),a])],[],[l]⟩⟩],np⟩
theorem ab3 :ci Tryz.prog bk4:=fh (ins:=[⟨337,ed Tryz.prog 337 ⟨[],[⟨338,ed Tryz.prog 338 ⟨[],[]⟩ .no⟩]⟩ (.n .no (.n .no (.n .no (.n .no (.n (.n .no (.n (.lp [1,3] ⟨.normal,[11,5,6],⟨[a,r,k],[l,(.cells 1 false [v])],[l,l]⟩⟩ [⟨(.exit 0),[6,5],⟨[k,r],[l,(.cells 1 false [v])],[l,l]⟩⟩] (.n .no (.n .no (.n (.n (.n .no (.jn [] [4] [⟨(.exit 0),[6,5],⟨[k,(.full 7)],[],[l]⟩⟩,⟨.normal,[5,6],⟨[(.full 7),k],[],[l]⟩⟩] (.n (.jn [] [] [⟨.normal,[16],⟨[k],[],[]⟩⟩] .no .no) .no) .no)) .no) .no)))) .no)) .no)))))⟩]) (at':= .no) (.nil _) (bB.cons (cy (.nil _) (bB.cons (cy (.nil _) (bB.nil _)) (bB.nil _))) (bB.nil _)) (fun _=>by kernel_rfl)
def bk1 :FSum:=⟨326,[k,a],[],[o],u2 iI⟩
theorem wq :ci Tryz.prog bk1:=aB (at':= .no) (.nil _) (fun _=>by kernel_rfl)
def bt5 :FSum:=⟨339,[a],[],[⟨.ret,[],⟨[(.agg [k,k,k,k])],[],[]⟩⟩],sK⟩
theorem aK6 :ci Tryz.prog bt5:=aB (at':=(.n .no (.n (.n .no (.n (.jn [] [] [⟨.normal,[4],⟨[k],[],[]⟩⟩] .no (.n .no (.jn [] [] [⟨.normal,[9],⟨[k],[],[]⟩⟩] .no .no))) .no)) .no))) (.nil _) (fun _=>by kernel_rfl)
def aR7 :FSum:=⟨362,[a],[],[w],wR⟩
theorem aS8 :ci Tryz.prog aR7:=aB (at':= .no) (.nil _) (fun _=>by kernel_rfl)
def aB0 :FSum:=⟨363,[a,k],[],[w],u2 jD⟩
theorem aB4 :ci Tryz.prog aB0:=aB (at':= .no) (.nil _) (fun _=>by kernel_rfl)
def aR6 :FSum:=⟨354,[bi],[],[w],u5 tz⟩
theorem aS7 :ci Tryz.prog aR6:=aB (at':= .no) (.cons aK6 (.cons aS8 (.cons aB4 (.nil _)))) (fun _=>by kernel_rfl)
def zx :FSum:=⟨353,[bi],[],[w],u5 pU⟩
theorem zU :ci Tryz.prog zx:=aB (at':= .no) (.cons aS7 (.nil _)) (fun _=>by kernel_rfl)
def tG :FSum:=⟨364,[ai,(.fn 353 [] [])],[],[o],i9⟩
theorem tL :ci Tryz.prog tG:=aB (at':=(.n .no (.n (.n .no (.n (.lp [] ⟨.normal,[8],⟨[a],[],[]⟩⟩ [⟨.ret,[4],⟨[a],[],[]⟩⟩,⟨(.exit 0),[],⟨[],[],[]⟩⟩] .no) .no)) .no))) (.cons zU (.nil _)) (fun _=>by kernel_rfl)
def se :FSum:=⟨355,[ai,(.fn 353 [] [])],[],[w],iH⟩
theorem sf :ci Tryz.prog se:=aB (at':= .no) (.cons tL (.nil _)) (fun _=>by kernel_rfl)
def rh :FSum:=⟨344,[ap],[],[o],u2 iP⟩
theorem uZ :ci Tryz.prog rh:=aB (at':= .no) (.cons ab3 (.cons wq (.cons sf (.nil _)))) (fun _=>by kernel_rfl)
def yw :FSum:=⟨365,[(.full 0)],[l],[⟨.ret,[],⟨[(.tup [])],[l],[]⟩⟩],da⟩
theorem yD :ci Tryz.prog yw:=aB (at':=(.n .no (.n (.lp [0] ⟨.normal,[2,3],⟨[a,a],[l],[]⟩⟩ [⟨(.exit 0),[],⟨[],[l],[]⟩⟩] .no) .no))) (.nil _) (fun _=>by kernel_rfl)
def aR5 :FSum:=⟨357,[bi],[],[⟨.ret,[],⟨[(.full 0)],[],[l]⟩⟩],u5 tx⟩
theorem aS6 :ci Tryz.prog aR5:=aB (at':=(.n .no (.n .no (.jn [] [] [⟨.normal,[3],⟨[j],[],[l]⟩⟩] (.n .no (.n (.jn [] [] [⟨.normal,[3],⟨[j],[],[l]⟩⟩,⟨(.exit 0),[3],⟨[.nils],[],[]⟩⟩] (.n (.jn [] [] [⟨.normal,[],⟨[],[],[]⟩⟩,⟨(.exit 2),[],⟨[],[],[]⟩⟩,⟨(.exit 0),[],⟨[],[],[]⟩⟩] .no .no) .no) .no) .no)) .no)))) (.cons yD (.nil _)) (fun _=>by kernel_rfl)
def aN4 :FSum:=⟨330,[bi],[],[⟨.ret,[],⟨[(.tup [a,k])],[],[]⟩⟩],u5 kj⟩
theorem ae4 :ci Tryz.prog aN4:=aB (at':= .no) (.cons aK6 (.nil _)) (fun _=>by kernel_rfl)
def uU :FSum:=⟨358,[a,f],[(.cells 1 true [a,ai])],[w],u3 jq⟩
theorem vb :ci Tryz.prog uU:=aB (at':= .no) (.nil _) (fun _=>by kernel_rfl)
def wY :FSum:=⟨222,[(.leaf (.list x)),(.fn 358 [] [f])],[(.cells 1 true [a,ai])],[o],u3 ly⟩
theorem w9 :ci Tryz.prog wY:=aB (at':=(.n .no (.n (.n .no (.n (.lp [] ⟨.normal,[8],⟨[a],[],[]⟩⟩ [⟨.ret,[4],⟨[a],[],[]⟩⟩,⟨(.exit 0),[],⟨[],[],[]⟩⟩] .no) .no)) .no))) (.cons vb (.nil _)) (fun _=>by kernel_rfl)
def uX :FSum:=⟨170,[(.leaf (.list x)),(.fn 358 [] [f])],[(.cells 1 true [a,ai])],[w],u3 gh⟩
theorem vg :ci Tryz.prog uX:=aB (at':= .no) (.cons w9 (.nil _)) (fun _=>by kernel_rfl)
def wo :FSum:=⟨356,[bi,f],[(.cells 1 true [a,ai])],[w],u7 iW⟩
theorem wt :ci Tryz.prog wo:=aB (at':=(.n .no (.n .no (.jn [] [2] [⟨.normal,[4],⟨[q],[],[l]⟩⟩] .no .no)))) (.cons aS6 (.cons ae4 (.cons vg (.nil _)))) (fun _=>by kernel_rfl)
def sD :FSum:=⟨364,[ai,(.fn 356 [] [f])],[(.cells 1 true [a,ai])],[o],u3 iK⟩
theorem sF :ci Tryz.prog sD:=aB (at':=(.n .no (.n (.n .no (.n (.lp [] ⟨.normal,[8],⟨[a],[],[]⟩⟩ [⟨.ret,[4],⟨[a],[],[]⟩⟩,⟨(.exit 0),[],⟨[],[],[]⟩⟩] .no) .no)) .no))) (.cons wt (.nil _)) (fun _=>by kernel_rfl)
def rG :FSum:=⟨355,[ai,(.fn 356 [] [f])],[(.cells 1 true [a,ai])],[w],u3 iq⟩
theorem rI :ci Tryz.prog rG:=aB (at':= .no) (.cons sF (.nil _)) (fun _=>by kernel_rfl)
def mD :FSum:=⟨345,[ap],[],[o],u2 gj⟩
theorem rM :ci Tryz.prog mD:=aB (at':= .no) (.cons wq (.cons rI (.nil _))) (fun _=>by kernel_rfl)
def bt4 :FSum:=⟨359,[ai],[],[⟨.ret,[],⟨[(.tup [a,a])],[],[]⟩⟩],xX⟩
theorem bu2 :ci Tryz.prog bt4:=fh (ins:=[⟨337,ed Tryz.prog 337 ⟨[],[⟨366,ed Tryz.prog 366 ⟨[],[]⟩ .no⟩]⟩ (.n .no (.n .no (.n .no (.n .no (.n (.n .no (.n (.lp [1] ⟨.normal,[11,5,6],⟨[a,p,k],[(.cells 1 false [a])],[l]⟩⟩ [⟨(.exit 0),[6,5],⟨[k,p],[(.cells 1 false [a])],[l]⟩⟩] (.n .no (.n .no (.n (.n (.n .no (.jn [] [2] [⟨(.exit 0),[6,5],⟨[k,r],[],[l]⟩⟩,⟨.normal,[5,6],⟨[r,k],[],[l]⟩⟩] (.n (.jn [] [] [⟨.normal,[16],⟨[k],[],[]⟩⟩] .no .no) .no) .no)) .no) .no)))) .no)) .no)))))⟩]) (at':= .no) (.nil _) (bB.cons (cy (.nil _) (bB.cons (cy (.nil _) (bB.nil _)) (bB.nil _))) (bB.nil _)) (fun _=>by kernel_rfl)
def qP :FSum:=⟨346,[ap],[],[o],u2 iE⟩
theorem ug :ci Tryz.prog qP:=aB (at':= .no) (.cons bu2 (.cons wq (.nil _))) (fun _=>by kernel_rfl)
def bl7 :FSum:=⟨328,[a,h],[],[⟨.ret,[],⟨[(.tup [a,k])],[],[]⟩⟩],u2 tE⟩
theorem bn3 :ci Tryz.prog bl7:=aB (at':= .no) (.nil _) (fun _=>by kernel_rfl)
def bE1 :FSum:=⟨329,[(.leaf (.list x))],[],[o],wT⟩
theorem bE4 :ci Tryz.prog bE1:=aB (at':=(.n .no (.n .no (.n (.n .no (.n (.lp [] ⟨.normal,[8,3],⟨[a,a],[],[]⟩⟩ [⟨(.exit 0),[3],⟨[a],[],[]⟩⟩] .no) .no)) .no)))) (.nil _) (fun _=>by kernel_rfl)
def aS1 :FSum:=⟨292,[ai],[],[⟨.ret,[],⟨[(.tup [(.full 0),j,a,a])],[],[l,l]⟩⟩],lx⟩
theorem am0 :ci Tryz.prog aS1:=aB (at':=(.n .no (.n .no (.n (.dr [0,1,3,4,2,6,5,7]) (.n .no (.n .no (.n (.n .no (.n (.lp [1,2] ⟨.normal,[34,8,5],⟨[a,r,(.cint .i64 0)],[l,l],[(.arr false (.pair x x))]⟩⟩ [⟨(.exit 0),[5,8],⟨[a,r],[l,l],[(.arr false (.pair x x))]⟩⟩] .no) .no)) (.jn [] [] [⟨.normal,[5],⟨[a],[],[]⟩⟩] .no .no)))))))) (.cons ab3 (.cons bn3 (.cons ae4 (.cons bE4 (.nil _))))) (fun _=>by kernel_rfl)
def yv :FSum:=⟨261,[ai],[],[⟨.ret,[],⟨[(.tup [a,a])],[],[]⟩⟩],ik⟩
theorem qH :ci Tryz.prog yv:=aB (at':= .no) (.cons am0 (.nil _)) (fun _=>by kernel_rfl)
def qm :FSum:=⟨347,[ap],[],[o],u2 il⟩
theorem tH :ci Tryz.prog qm:=aB (at':= .no) (.cons qH (.nil _)) (fun _=>by kernel_rfl)
def bk0 :FSum:=⟨287,[ap,ap],[],[o],u4 wj⟩
theorem bm3 :ci Tryz.prog bk0:=fh (ins:=[⟨325,ed Tryz.prog 325 ⟨[rh,mD,qP,qm],[⟨336,ed Tryz.prog 336 ⟨[],[]⟩ .no⟩]⟩ (.n .no (.n .no (.n (.n .no (.n (.n .no (.n .no (.n .no .no))) .no)) (.n (.n .no (.n (.n (.n .no (.n .no (.n (.n (.n .no (.n .no (.n (.n .no (.n .no (.n .no .no))) .no))) .no) .no))) (.n (.n .no (.n .no (.n (.n (.n .no (.n .no (.n (.n .no (.n .no (.n .no .no))) .no))) .no) .no))) (.n (.n .no (.n .no (.n (.n (.n .no (.n .no (.n (.n .no (.n .no (.n .no .no))) .no))) .no) .no))) (.n (.n .no (.n .no (.n (.n (.n .no (.n .no (.n (.n .no (.n .no (.n .no .no))) .no))) .no) .no))) (.n .no .no))))) .no)) .no))))⟩]) (at':= .no) (.nil _) (bB.cons (cy (.cons uZ (.cons rM (.cons ug (.cons tH (.nil _))))) (bB.cons (cy (.nil _) (bB.nil _)) (bB.nil _))) (bB.nil _)) (fun _=>by kernel_rfl)
def yu :FSum:=⟨252,[aw],[],[o],u9 iG⟩
theorem yC :ci Tryz.prog yu:=aB (at':= .no) (.cons bm3 (.nil _)) (fun _=>by kernel_rfl)
def bj9 :FSum:=⟨288,[ap,ap,a,a],[],[o],u6 ti⟩
theorem bm2 :ci Tryz.prog bj9:=aB (at':=(.n .no (.jn [] [] [⟨.normal,[9],⟨[k],[],[]⟩⟩] .no .no))) (.cons wq (.nil _)) (fun _=>by kernel_rfl)
def aj8 :FSum:=⟨253,[aw],[],[o],u9 ju⟩
theorem al5 :ci Tryz.prog aj8:=aB (at':= .no) (.cons bm2 (.nil _)) (fun _=>by kernel_rfl)
def zN :FSum:=⟨254,[aw],[],[o],u9 i6⟩
theorem aa7 :ci Tryz.prog zN:=aB (at':=(.n .no (.n .no (.jn [] [] [⟨.normal,[3],⟨[a],[],[]⟩⟩] .no .no)))) (.cons yB (.nil _)) (fun _=>by kernel_rfl)
def zM :FSum:=⟨255,[aw],[],[o],u9 i5⟩
theorem aa6 :ci Tryz.prog zM:=aB (at':= .no) (.cons yB (.nil _)) (fun _=>by kernel_rfl)
def aR0 :FSum:=⟨198,[aw],[],[o],u9 qY⟩
theorem al4 :ci Tryz.prog aR0:=aB (at':=(.n .no (.n .no (.n (.n .no (.n (.lp [] ⟨.normal,[20],⟨[a],[],[]⟩⟩ [⟨.ret,[2],⟨[a],[],[]⟩⟩,⟨(.exit 0),[],⟨[],[],[]⟩⟩] .no) .no)) .no)))) (.cons al6 (.cons yC (.cons al5 (.cons aa7 (.cons aa6 (.nil _)))))) (fun _=>by kernel_rfl)
def bP8 :FSum:=⟨213,[aw],[],[⟨.ret,[],⟨[(.tup [a,a])],[],[]⟩⟩],u9 ji⟩
theorem pp :ci Tryz.prog bP8:=aB (at':= .no) (.cons al4 (.cons qH (.nil _))) (fun _=>by kernel_rfl)
def bk5 :FSum:=⟨199,[aw],[],[⟨.ret,[],⟨[(.agg [a,a,a,a,a,a,a,a,a])],[],[]⟩⟩],u9 tB⟩
theorem aB5 :ci Tryz.prog bk5:=aB (at':=(.n .no (.n .no (.n .no (.n .no (.jn [] [] [⟨.normal,[7,8],⟨[a,a],[],[]⟩⟩] .no .no)))))) (.cons pp (.nil _)) (fun _=>by kernel_rfl)
def bD9 :FSum:=⟨201,[(.agg [a,a,a,a,a,a,a,a,a]),a],[],[⟨.ret,[],⟨[(.full 0)],[],[l]⟩⟩],u10 wS⟩
theorem aS9 :ci Tryz.prog bD9:=fh (ins:=[⟨256,ed Tryz.prog 256 ⟨[],[]⟩ .no⟩]) (at':=(.n .no (.n .no (.n .no (.n .no (.n (.n .no (.n (.lp [1] ⟨.normal,[10,7],⟨[a,p],[(.cells 1 false [a])],[l]⟩⟩ [⟨(.exit 0),[7],⟨[p],[(.cells 1 false [a])],[l]⟩⟩] .no) .no)) .no)))))) (.nil _) (bB.cons (cy (.nil _) (bB.nil _)) (bB.nil _)) (fun _=>by kernel_rfl)
def bt7 :FSum:=⟨200,[(.agg [a,a,a,a,a,a,a,a,a]),a],[],[o],u10 uS⟩
theorem bu3 :ci Tryz.prog bt7:=aB (at':= .no) (.cons aS9 (.nil _)) (fun _=>by kernel_rfl)
def bt6 :FSum:=⟨125,[aw],[],[⟨.ret,[],⟨[(.tup [(.agg [a,a,a,a]),a])],[],[]⟩⟩],u9 sL⟩
theorem aK7 :ci Tryz.prog bt6:=aB (at':=(.n .no (.n .no (.n .no (.n .no (.jn [] [] [⟨.normal,[6],⟨[a],[],[]⟩⟩] .no (.n .no (.n .no (.n (.n .no (.n (.lp [3] ⟨.normal,[35],⟨[a],[(.cells 1 false [a,a,a,a])],[]⟩⟩ [⟨(.exit 0),[],⟨[],[(.cells 1 false [a,a,a,a])],[]⟩⟩] .no) .no)) .no))))))))) (.cons al4 (.cons aB5 (.cons bu3 (.nil _)))) (fun _=>by kernel_rfl)
def vD :FSum:=⟨126,[.leaf bu],[],xh az,gu⟩
theorem vG :ci Tryz.prog vD:=am8 (es:=5) (bytes:=40) (z:=[(.int .i64 0),(.int .i64 0),(.int .i64 0),(.int .i64 0),(.int .u64 0)]) (s:=az) (by kernel_rfl) (fun _=>by kernel_rfl) (fun _=>by kernel_rfl) (by kernel_rfl)
def kn :FSum:=⟨116,[.leaf ah],[],xh bk,cu⟩
theorem fg :ci Tryz.prog kn:=am8 (es:=1) (bytes:=8) (z:=[(.int .u64 0)]) (s:=bk) (by kernel_rfl) (fun _=>by kernel_rfl) (fun _=>by kernel_rfl) (by kernel_rfl)
def bb7 :FSum:=⟨127,[aw],[],[⟨.ret,[],⟨[(.tup [(.full 0),a])],[],[l]⟩⟩],u9 uE⟩
theorem bc7 :ci Tryz.prog bb7:=aB (at':= .no) (.cons aK7 (.cons aB5 (.cons aS9 (.nil _)))) (fun _=>by kernel_rfl)
def bb2 :FSum:=⟨59,[aw],[],[⟨.ret,[],⟨[(.tup [.nilp,a])],[],[]⟩⟩,⟨.ret,[],⟨[(.tup [f,(.cint .i64 0)])],[],[(.cells 1 false [a,a,a,a,a,j,p,a,q,a,r,a,a,v, .nilp, .nilp, .nilp,a,(.cint .i64 0),(.cint .i64 (-1)),(.cint .i64 0),(.cint .i64 0),(.cint .i64 0),(.cint .i64 0),(.cint .u64 0)]),b,b,(.arr false az),(.arr false az),l]⟩⟩],u9 ol⟩
theorem av8 :ci Tryz.prog bb2:=aB (at':= .no) (.cons aK7 (.cons vG (.cons fg (.cons bc7 (.nil _))))) (fun _=>by kernel_rfl)
def bb0 :FSum:=⟨128,[a],[],[o],rW⟩
theorem av7 :ci Tryz.prog bb0:=aB (at':= .no) (.nil _) (fun _=>by kernel_rfl)
def bt1 :FSum:=⟨60,[a],[],[⟨.ret,[],⟨[(.tup [f,(.cint .i64 0)])],[],[(.cells 1 false [j,(.cint .i64 0)]),b]⟩⟩],uO⟩
theorem bu0 :ci Tryz.prog bt1:=aB (at':= .no) (.cons av7 (.nil _)) (fun _=>by kernel_rfl)
def aR3 :FSum:=⟨129,[a,a,a],[],[⟨.ret,[],⟨[(.tup [.nilp,(.cint .i64 2)])],[],[]⟩⟩,⟨.ret,[],⟨[(.tup [f,(.cint .i64 0)])],[],[d]⟩⟩],u3 qZ⟩
theorem aS5 :ci Tryz.prog aR3:=aB (at':= .no) (.nil _) (fun _=>by kernel_rfl)
def bt3 :FSum:=⟨61,[a],[],[⟨.ret,[],⟨[(.tup [f,(.cint .i64 0)])],[],[d]⟩⟩],xW⟩
theorem bu1 :ci Tryz.prog bt3:=aB (at':= .no) (.cons aS5 (.nil _)) (fun _=>by kernel_rfl)
def zS :FSum:=⟨130,[f,a,a],[m],[w],u5 qf⟩
theorem ab2 :ci Tryz.prog zS:=aB (at':= .no) (.nil _) (fun _=>by kernel_rfl)
def au4 :FSum:=⟨131,[f,a],[d],[⟨.ret,[],⟨[(.tup [])],[d],[]⟩⟩],u4 kv⟩
theorem wd :ci Tryz.prog au4:=aB (at':= .no) (.nil _) (fun _=>by kernel_rfl)
def iM :FSum:=⟨62,[f,a],[d],[⟨.ret,[],⟨[a],[d],[]⟩⟩],u4 du⟩
theorem er :ci Tryz.prog iM:=aB (at':= .no) (.cons ab2 (.cons wd (.nil _))) (fun _=>by kernel_rfl)
def aw7 :FSum:=⟨132,[f],[(.cells 1 true [j,a]),c],[o],u2 sA⟩
theorem ax7 :ci Tryz.prog aw7:=aB (at':= .no) (.nil _) (fun _=>by kernel_rfl)
def wW :FSum:=⟨63,[f,a],[(.cells 1 false [j,a]),c],[⟨.ret,[],⟨[(.tup [a,a])],[(.cells 1 false [j,a])],[]⟩⟩],u3 dB⟩
theorem sE :ci Tryz.prog wW:=aB (at':= .no) (.cons ax7 (.nil _)) (fun _=>by kernel_rfl)
def yR :FSum:=⟨64,[f],[ay,c,c,g,g,i,af,m,c],[w],u27 ia⟩
theorem sR :ci Tryz.prog yR:=aB (at':= .no) (.nil _) (fun _=>by kernel_rfl)
def aB2 :FSum:=⟨133,[(.agg [a,a,a])],[],[w],u3 nz⟩
theorem yd :ci Tryz.prog aB2:=aB (at':= .no) (.nil _) (fun _=>by kernel_rfl)
def wZ :FSum:=⟨134,[(.agg [a,a,a])],[],[o],u3 fq⟩
theorem qw :ci Tryz.prog wZ:=aB (at':= .no) (.nil _) (fun _=>by kernel_rfl)
def rT :FSum:=⟨135,[f,a,(.leaf ah)],[(.cells 1 true [j,a]),b],[⟨.ret,[],⟨[a],[b],[]⟩⟩],u4 fc⟩
theorem iw :ci Tryz.prog rT:=fh (ins:=[⟨202,ed Tryz.prog 202 ⟨[],[⟨203,ed Tryz.prog 203 ⟨[],[]⟩ .no⟩]⟩ .no⟩]) (at':= .no) (.nil _) (bB.cons (cy (.nil _) (bB.cons (cy (.nil _) (bB.nil _)) (bB.nil _))) (bB.nil _)) (fun _=>by kernel_rfl)
def bt8 :FSum:=⟨65,[f,a,a],[(.cells 1 false [j,a]),b],[⟨.ret,[],⟨[(.tup [(.ptr 2 0),(.cint .i64 0)])],[(.cells 1 false [j,a]),b],[(.cells 1 false [a,a,a,f])]⟩⟩],u4 ai8⟩
theorem bu4 :ci Tryz.prog bt8:=aB (at':= .no) (.cons yd (.cons qw (.cons sE (.cons iw (.nil _))))) (fun _=>by kernel_rfl)
def wX :FSum:=⟨66,[f,a,(.leaf ah)],[ay,c,c,g,g,i,af,m,b],[⟨.ret,[],⟨[(.tup [])],[b],[]⟩⟩],u29 cj⟩
theorem gm :ci Tryz.prog wX:=aB (at':= .no) (.cons iw (.nil _)) (fun _=>by kernel_rfl)
def uV :FSum:=⟨66,[f,a,(.leaf ah)],[ax,c,c,g,g,i,aj,ag,m,b],[⟨.ret,[],⟨[(.tup [])],[b],[]⟩⟩],u32 cg⟩
theorem fm :ci Tryz.prog uV:=aB (at':= .no) (.cons iw (.nil _)) (fun _=>by kernel_rfl)
def bt2 :FSum:=⟨12,[aw],[],[⟨.ret,[],⟨[(.tup [.nilp,a])],[],[]⟩⟩,⟨.ret,[],⟨[(.tup [f,(.cint .i64 0)])],[],[(.cells 1 false [a,a,a,a,a,j,p,a,q,a,r,a,a,v,av, .nilp,ba,a,(.cint .i64 0),(.cint .i64 (-1)),(.cint .i64 0),(.cint .i64 0),(.cint .i64 0),(.cint .i64 0),(.cint .u64 0)]),b,b,(.arr false az),(.arr false az),l,(.cells 1 false [(.full 8),a]),d,b]⟩⟩,⟨.ret,[],⟨[(.tup [f,(.cint .i64 0)])],[],[(.cells 1 false [a,a,a,a,a,j,p,a,q,a,r,a,a,v,av,ba,bg,a,(.cint .i64 0),(.cint .i64 (-1)),(.cint .i64 0),(.cint .i64 0),(.cint .i64 0),(.cint .i64 0),(.cint .u64 0)]),b,b,(.arr false az),(.arr false az),l,(.cells 1 false [(.full 9),a]),(.cells 1 false [a,a,a,av]),d,b]⟩⟩],u9 nj⟩
theorem aK5 :ci Tryz.prog bt2:=aB (at':=(.n .no (.n .no (.n .no (.n .no (.n .no (.n .no (.n .no (.jn [1,7,8] [] [⟨.normal,[],⟨[],[(.cells 1 false [a,a,a,a,a,p,q,a,r,a,v,a,a,aq,ba, .nilp,ao,a,(.cint .i64 0),(.cint .i64 (-1)),(.cint .i64 0),(.cint .i64 0),(.cint .i64 0),(.cint .i64 0),(.cint .u64 0)]),(.cells 1 false [(.full 8),a]),b],[]⟩⟩,⟨.normal,[],⟨[],[(.cells 1 false [a,a,a,a,a,p,q,a,r,a,v,a,a,aq,ba,(.ptr 10 0),ao,a,(.cint .i64 0),(.cint .i64 (-1)),(.cint .i64 0),(.cint .i64 0),(.cint .i64 0),(.cint .i64 0),(.cint .u64 0)]),(.cells 1 false [(.full 8),a]),b],[(.cells 1 false [a,a,a,ba])]⟩⟩] .no .no))))))))) (.cons av8 (.cons bu0 (.cons bu1 (.cons er (.cons sE (.cons sR (.cons bu4 (.cons gm (.cons fm (.nil _)))))))))) (fun _=>by kernel_rfl)
def wV :FSum:=⟨165,[f,a,a],[(.cells 1 true [j,a]),c],[⟨.ret,[],⟨[(.tup [p,a])],[],[b]⟩⟩],u4 ek⟩
theorem jk :ci Tryz.prog wV:=fh (ins:=[⟨202,ed Tryz.prog 202 ⟨[],[⟨219,ed Tryz.prog 219 ⟨[kn],[]⟩ .no⟩]⟩ .no⟩]) (at':= .no) (.nil _) (bB.cons (cy (.nil _) (bB.cons (cy (.cons fg (.nil _)) (bB.nil _)) (bB.nil _))) (bB.nil _)) (fun _=>by kernel_rfl)
def qo :FSum:=⟨95,[f,a],[ay,c,c,g,g,i,af,m,c],[⟨.ret,[],⟨[(.full 9)],[],[b]⟩⟩],u28 cB⟩
theorem eb :ci Tryz.prog qo:=aB (at':= .no) (.cons jk (.nil _)) (fun _=>by kernel_rfl)
def uW :FSum:=⟨262,[(.leaf (.list ah))],[],[⟨.ret,[],⟨[(.full 0)],[],[b]⟩⟩],gg⟩
theorem pD :ci Tryz.prog uW:=fh (ins:=[⟨293,ed Tryz.prog 293 ⟨[],[]⟩ .no⟩]) (at':=(.n .no (.n .no (.n (.n .no (.n (.lp [] ⟨.normal,[11,3],⟨[a,a],[],[]⟩⟩ [⟨(.exit 0),[3],⟨[a],[],[]⟩⟩] .no) .no)) (.n .no (.n (.n .no (.n (.sz 0 (.lp [] ⟨.normal,[27,6],⟨[a,(.full 0)],[],[b]⟩⟩ [⟨(.exit 2),[6],⟨[(.full 0)],[],[b]⟩⟩] .no) (.lp [] ⟨.normal,[27,6],⟨[a,j],[],[b]⟩⟩ [⟨(.exit 2),[6],⟨[j],[],[b]⟩⟩] .no)) .no)) .no)))))) (.nil _) (bB.cons (cy (.nil _) (bB.nil _)) (bB.nil _)) (fun _=>by kernel_rfl)
def aj2 :FSum:=⟨214,[f,ap,(.leaf ah),(.leaf ah)],[ay,c,c,g,g,i,af,m,c],[⟨.ret,[],⟨[(.full 9)],[],[b]⟩⟩],u31 iQ⟩
theorem rk :ci Tryz.prog aj2:=aB (at':= .no) (.cons eb (.cons pD (.nil _))) (fun _=>by kernel_rfl)
def aN0 :FSum:=⟨331,[ap],[],[o],u2 sq⟩
theorem aN7 :ci Tryz.prog aN0:=fh (ins:=[⟨325,ed Tryz.prog 325 ⟨[rh,mD,qP,qm],[⟨336,ed Tryz.prog 336 ⟨[],[]⟩ .no⟩]⟩ (.n .no (.n .no (.n (.n .no (.n (.n .no (.n .no .no)) .no)) (.n (.n .no (.n (.n (.n .no (.n .no (.n (.n (.n .no (.n .no (.n (.n .no (.n .no .no)) .no))) .no) .no))) (.n (.n .no (.n .no (.n (.n (.n .no (.n .no (.n (.n .no (.n .no .no)) .no))) .no) .no))) (.n (.n .no (.n .no (.n (.n (.n .no (.n .no (.n (.n .no (.n .no .no)) .no))) .no) .no))) (.n (.n .no (.n .no (.n (.n (.n .no (.n .no (.n (.n .no (.n .no .no)) .no))) .no) .no))) (.n .no .no))))) .no)) .no))))⟩]) (at':= .no) (.nil _) (bB.cons (cy (.cons uZ (.cons rM (.cons ug (.cons tH (.nil _))))) (bB.cons (cy (.nil _) (bB.nil _)) (bB.nil _))) (bB.nil _)) (fun _=>by kernel_rfl)
def bl6 :FSum:=⟨332,[ai],[],[⟨.ret,[],⟨[(.tup [(.full 0),a])],[],[l]⟩⟩],zu⟩
theorem bn2 :ci Tryz.prog bl6:=aB (at':= .no) (.cons am0 (.nil _)) (fun _=>by kernel_rfl)
def aj7 :FSum:=⟨294,[ap],[],[⟨.ret,[],⟨[(.tup [(.full 0),a])],[],[(.arr false bh)]⟩⟩],u2 pB⟩
theorem vd :ci Tryz.prog aj7:=aB (at':=(.n .no (.n .no (.n .no (.n .no (.n .no (.n .no (.n (.n .no (.n (.lp [] ⟨.normal,[11,10,9],⟨[a,q,r],[],[l,(.arr false bh)]⟩⟩ [⟨(.exit 0),[9],⟨[q],[],[(.arr false bh)]⟩⟩] (.n .no (.n (.n (.n .no (.jn [] [3,4] [⟨(.exit 1),[11,10,9],⟨[a,aq,(.full 7)],[],[l,(.arr false bh)]⟩⟩,⟨.normal,[9,11,10],⟨[aq,a,(.full 7)],[],[(.arr false bh),l]⟩⟩] (.n (.jn [] [] [⟨.normal,[43],⟨[k],[],[]⟩⟩] .no .no) .no) .no)) .no) .no))) .no)) .no)))))))) (.cons aN7 (.cons ab3 (.cons bn2 (.nil _)))) (fun _=>by kernel_rfl)
def bl9 :FSum:=⟨263,[ap,(.leaf ah),(.leaf ah)],[],[⟨.ret,[],⟨[(.tup [(.full 0),a])],[],[(.arr false bh)]⟩⟩],u4 zw⟩
theorem bn4 :ci Tryz.prog bl9:=aB (at':= .no) (.cons vd (.cons qH (.nil _))) (fun _=>by kernel_rfl)
def aR4 :FSum:=⟨295,[bi,h,h],[],[⟨.ret,[],⟨[h],[],[]⟩⟩],u7 rb⟩
theorem al8 :ci Tryz.prog aR4:=aB (at':= .no) (.nil _) (fun _=>by kernel_rfl)
def bt9 :FSum:=⟨264,[(.full 0),j,p],[(.arr true bh),b,b],[⟨.ret,[],⟨[a],[b,b],[]⟩⟩],u3 xY⟩
theorem bu5 :ci Tryz.prog bt9:=aB (at':=(.n .no (.n .no (.n .no (.n (.lp [1,2,3] ⟨.normal,[8,10,9],⟨[a,a,a],[b,b,bj],[]⟩⟩ [⟨.ret,[6],⟨[a],[b,b,bj],[]⟩⟩] .no) .no))))) (.cons al8 (.nil _)) (fun _=>by kernel_rfl)
def bc3 :FSum:=⟨215,[(.agg [a,(.full 0)]),j,p],[g,b,b],[⟨.ret,[],⟨[(.tup [a,a])],[b,b],[]⟩⟩],u4 om⟩
theorem uI :ci Tryz.prog bc3:=aB (at':= .no) (.cons bn4 (.cons bu5 (.nil _))) (fun _=>by kernel_rfl)
def rj :FSum:=⟨162,[f],[au,c,c,g,g,i,af,m,b],[⟨.ret,[],⟨[(.tup [(.full 9),(.full 10)])],[au,b],[b,b]⟩⟩],u27 iR⟩
theorem rl :ci Tryz.prog rj:=aB (at':=(.n .no (.n .no (.n (.dr [0,1,2,3,4,5,6,8,9,10,11,12,15,1013,1016,7,13,1016,14,17,16,18]) .no)))) (.cons pp (.cons eb (.cons rk (.cons uI (.cons gm (.nil _)))))) (fun _=>by kernel_rfl)
def aj5 :FSum:=⟨163,[f,a],[ay,c,c,g,g,i,af,m,c],[o],u28 jt⟩
theorem al2 :ci Tryz.prog aj5:=aB (at':= .no) (.nil _) (fun _=>by kernel_rfl)
def zL :FSum:=⟨221,[ap,(.leaf ah)],[],[⟨.ret,[],⟨[(.full 0)],[],[b]⟩⟩],u3 lf⟩
theorem rH :ci Tryz.prog zL:=aB (at':= .no) (.cons fg (.nil _)) (fun _=>by kernel_rfl)
def tF :FSum:=⟨340,[bi,h,h],[],[⟨.ret,[],⟨[(.tup [h,h])],[],[]⟩⟩],u7 jB⟩
theorem tJ :ci Tryz.prog tF:=aB (at':= .no) (.nil _) (fun _=>by kernel_rfl)
def ax4 :FSum:=⟨333,[(.agg [(.full 0),j,p]),bi,a],[b,b,c],[⟨.ret,[],⟨[(.tup [])],[b,b],[]⟩⟩],u9 ql⟩
theorem ay0 :ci Tryz.prog ax4:=aB (at':= .no) (.cons tJ (.nil _)) (fun _=>by kernel_rfl)
def ax3 :FSum:=⟨296,[(.agg [(.full 0),j,p]),q,a],[b,b,c,(.arr true bh)],[⟨.ret,[],⟨[(.tup [])],[b,b],[]⟩⟩],u5 qk⟩
theorem ax9 :ci Tryz.prog ax3:=aB (at':=(.n .no (.n .no (.n .no (.n (.lp [0,1,5] ⟨.normal,[7,8,2],⟨[a,a,a],[b,b,bj],[]⟩⟩ [⟨.ret,[],⟨[],[b,b,bj],[]⟩⟩] .no) .no))))) (.cons ay0 (.nil _)) (fun _=>by kernel_rfl)
def bl8 :FSum:=⟨265,[(.agg [a,(.full 0)]),j,p,q],[g,b,b,c],[⟨.ret,[],⟨[a],[b,b],[]⟩⟩],u5 qj⟩
theorem wu :ci Tryz.prog bl8:=aB (at':= .no) (.cons vd (.cons qH (.cons ax9 (.nil _)))) (fun _=>by kernel_rfl)
def au0 :FSum:=⟨220,[f,(.agg [a,j]),p,q,r],[(.cells 1 false [a,a,a,a,a,v,aq,a,(.full 7),a,j,a,a,(.full 8),ao, .nilp,(.ptr 10 0),a,a,a,a,a,a,a,h]),g,b,b,c,c,c,g,i,(.cells 1 true [(.full 11),a]),m,b],[⟨.ret,[],⟨[(.tup [])],[(.cells 1 false [a,a,a,a,a,v,aq,a,(.full 7),a,j,a,a,(.full 8),ao, .nilp,(.ptr 10 0),a,a,a,a,a,a,a,h]),b,b,b],[]⟩⟩],u31 pa⟩
theorem au9 :ci Tryz.prog au0:=aB (at':=(.n .no (.n .no (.n .no (.n .no (.n .no (.n .no (.n (.n .no (.n (.lp [13] ⟨.normal,[36],⟨[a],[b],[]⟩⟩ [⟨(.exit 0),[],⟨[],[b],[]⟩⟩] .no) .no)) .no)))))))) (.cons wu (.cons gm (.cons eb (.nil _)))) (fun _=>by kernel_rfl)
def sC :FSum:=⟨218,[f,(.leaf ah)],[au,c,c,g,g,i,af,m,b],[⟨.ret,[],⟨[(.tup [])],[au,b],[]⟩⟩],u28 lr⟩
theorem w6 :ci Tryz.prog sC:=aB (at':=(.n .no (.n (.dr [0,1,2,3,4,5,6,8,1009,7,10,9,11]) .no))) (.cons pp (.cons rk (.cons uI (.cons gm (.cons rH (.cons au9 (.nil _))))))) (fun _=>by kernel_rfl)
def iL :FSum:=⟨167,[f,a],[d],[⟨.ret,[],⟨[a],[d],[]⟩⟩],u4 cx⟩
theorem fy :ci Tryz.prog iL:=aB (at':= .no) (.cons wd (.nil _)) (fun _=>by kernel_rfl)
def au3 :FSum:=⟨164,[f,a],[au,c,c,g,g,i,af,d,b],[⟨.ret,[],⟨[(.tup [])],[au,d,b],[]⟩⟩],u28 ku⟩
theorem wb :ci Tryz.prog au3:=fh (ins:=[⟨216,ed Tryz.prog 216 ⟨[iM,iL],[⟨217,ed Tryz.prog 217 ⟨[qo,sC],[]⟩ .no⟩]⟩ .no⟩]) (at':= .no) (.cons pp (.nil _)) (bB.cons (cy (.cons er (.cons fy (.nil _))) (bB.cons (cy (.cons eb (.cons w6 (.nil _))) (bB.nil _)) (bB.nil _))) (bB.nil _)) (fun _=>by kernel_rfl)
def aj4 :FSum:=⟨90,[f,(.agg [a,a])],[au,c,c,g,g,i,af,d,b],[⟨.ret,[],⟨[a],[au,d,b],[]⟩⟩],u29 ni⟩
theorem al1 :ci Tryz.prog aj4:=fh (ins:=[⟨166,ed Tryz.prog 166 ⟨[qo,zL],[⟨220,ed Tryz.prog 220 ⟨[wX,qo],[⟨265,ed Tryz.prog 265 ⟨[aj7,yv],[⟨296,ed Tryz.prog 296 ⟨[],[⟨333,ed Tryz.prog 333 ⟨[tF],[]⟩ .no⟩]⟩ (.n .no (.n .no (.n .no (.n (.lp [10,12,17] ⟨.normal,[7,8,2],⟨[a,a,a],[b,b,bj],[]⟩⟩ [⟨.ret,[],⟨[],[b,b,bj],[]⟩⟩] .no) .no))))⟩]⟩ .no⟩]⟩ (.n .no (.n .no (.n .no (.n .no (.n .no (.n .no (.n (.n .no (.n (.sz 1019 (.lp [18] ⟨.normal,[36],⟨[a],[b],[]⟩⟩ [⟨(.exit 0),[],⟨[],[b],[]⟩⟩] .no) (.lp [16] ⟨.normal,[36],⟨[a],[b],[]⟩⟩ [⟨(.exit 0),[],⟨[],[b],[]⟩⟩] .no)) .no)) .no)))))))⟩]⟩ .no⟩]) (at':=(.n .no (.jn [] [] [⟨.normal,[5],⟨[k],[],[]⟩⟩] .no (.jn [] [] [⟨.ret,[4],⟨[a],[],[]⟩⟩,⟨.normal,[],⟨[],[],[]⟩⟩] (.n (.jn [] [] [⟨.normal,[19],⟨[k],[],[]⟩⟩] .no (.n .no (.jn [] [] [⟨.normal,[32],⟨[k],[],[]⟩⟩] .no .no))) .no) .no)))) (.cons er (.cons rl (.cons al2 (.cons iw (.cons gm (.cons wb (.cons jk (.cons fy (.nil _))))))))) (bB.cons (cy (.cons eb (.cons rH (.nil _))) (bB.cons (cy (.cons gm (.cons eb (.nil _))) (bB.cons (cy (.cons vd (.cons qH (.nil _))) (bB.cons (cy (.nil _) (bB.cons (cy (.cons tJ (.nil _)) (bB.nil _)) (bB.nil _))) (bB.nil _))) (bB.nil _))) (bB.nil _))) (bB.nil _)) (fun _=>by kernel_rfl)
def ax1 :FSum:=⟨96,[.nilp],[],[⟨.ret,[],⟨[.nils],[],[]⟩⟩],fun _=>qi⟩
theorem sG :ci Tryz.prog ax1:=aB (at':= .no) (.nil _) (fun _=>by kernel_rfl)
def at9 :FSum:=⟨29,[f],[ay,c,c,g,g,i,af,m,c],[⟨.ret,[],⟨[(.agg [a,a, .nils])],[],[]⟩⟩],u27 iv⟩
theorem vZ :ci Tryz.prog at9:=aB (at':= .no) (.cons sG (.nil _)) (fun _=>by kernel_rfl)
def aR2 :FSum:=⟨169,[a],[],[w],wQ⟩
theorem aS4 :ci Tryz.prog aR2:=aB (at':= .no) (.nil _) (fun _=>by kernel_rfl)
def aR1 :FSum:=⟨168,[a,f],[(.cells 1 true [a])],[w],u2 pe⟩
theorem al7 :ci Tryz.prog aR1:=aB (at':= .no) (.nil _) (fun _=>by kernel_rfl)
def vE :FSum:=⟨222,[(.leaf (.list x)),(.fn 168 [] [f])],[(.cells 1 true [a])],[o],u2 kl⟩
theorem vH :ci Tryz.prog vE:=aB (at':=(.n .no (.n (.n .no (.n (.lp [] ⟨.normal,[8],⟨[a],[],[]⟩⟩ [⟨.ret,[4],⟨[a],[],[]⟩⟩,⟨(.exit 0),[],⟨[],[],[]⟩⟩] .no) .no)) .no))) (.cons al7 (.nil _)) (fun _=>by kernel_rfl)
def tV :FSum:=⟨170,[(.leaf (.list x)),(.fn 168 [] [f])],[(.cells 1 true [a])],[w],u2 ib⟩
theorem tX :ci Tryz.prog tV:=aB (at':= .no) (.cons vH (.nil _)) (fun _=>by kernel_rfl)
def zT :FSum:=⟨171,[.leaf (.list x)],[],xh x,i8⟩
theorem tK :ci Tryz.prog zT:=am8 (es:=1) (bytes:=8) (z:=[(.int .i64 0)]) (s:=x) (by kernel_rfl) (fun _=>by kernel_rfl) (fun _=>by kernel_rfl) (by kernel_rfl)
def bk3 :FSum:=⟨91,[a,(.agg [a,a,(.leaf (.list x))])],[],[⟨.ret,[],⟨[(.tup [.nilp,(.cint .i64 2)])],[],[]⟩⟩,⟨.ret,[],⟨[(.tup [f,(.cint .i64 0)])],[],[(.cells 1 false [a,a,a,(.cint .i64 0),j]),l]⟩⟩],u4 qb⟩
theorem aa8 :ci Tryz.prog bk3:=aB (at':= .no) (.cons aS4 (.cons al7 (.cons tX (.cons tK (.nil _))))) (fun _=>by kernel_rfl)
def aA7 :FSum:=⟨223,[a],[],[w],th⟩
theorem aB3 :ci Tryz.prog aA7:=aB (at':= .no) (.nil _) (fun _=>by kernel_rfl)
def aQ8 :FSum:=⟨172,[(.agg [a,a])],[],[w],u2 tg⟩
theorem aS2 :ci Tryz.prog aQ8:=aB (at':=(.n .no (.n (.n (.jn [] [] [⟨.normal,[3],⟨[k],[],[]⟩⟩] .no .no) .no) .no))) (.cons aB3 (.nil _)) (fun _=>by kernel_rfl)
def yT :FSum:=⟨173,[f],[(.cells 1 true [a,a,a,a,j]),i],[⟨.ret,[],⟨[(.agg [.nilf,(.fn 224 [f] []),(.fn 225 [f] []),(.fn 226 [f] []),(.fn 227 [f] []),(.fn 228 [f] []),(.fn 229 [f] []),(.fn 230 [f] [])])],[],[]⟩⟩],u5 pf⟩
theorem yX :ci Tryz.prog yT:=aB (at':= .no) (.nil _) (fun _=>by kernel_rfl)
def xN :FSum:=⟨224,[f,a],[bb,i],[⟨.ret,[],⟨[a],[bb],[]⟩⟩],u6 my⟩
theorem xS :ci Tryz.prog xN:=aB (at':= .no) (.nil _) (fun _=>by kernel_rfl)
def yU :FSum:=⟨225,[f,a],[(.cells 1 true [a,a,a,a,j]),l],[⟨.ret,[],⟨[a],[l],[]⟩⟩],u6 pg⟩
theorem yY :ci Tryz.prog yU:=aB (at':= .no) (.nil _) (fun _=>by kernel_rfl)
def xO :FSum:=⟨226,[f,a],[bb,i],[⟨.ret,[],⟨[a],[bb],[]⟩⟩],u6 mz⟩
theorem xT :ci Tryz.prog xO:=aB (at':= .no) (.nil _) (fun _=>by kernel_rfl)
def zQ :FSum:=⟨227,[f,a],[(.cells 1 true [a,a,a,a,j]),l],[⟨.ret,[],⟨[a],[l],[]⟩⟩],u6 qd⟩
theorem ab0 :ci Tryz.prog zQ:=aB (at':= .no) (.nil _) (fun _=>by kernel_rfl)
def yS :FSum:=⟨266,[f,a],[bb,i],[⟨.ret,[],⟨[a],[bb],[]⟩⟩],u6 iS⟩
theorem sS :ci Tryz.prog yS:=aB (at':= .no) (.nil _) (fun _=>by kernel_rfl)
def zR :FSum:=⟨228,[f,a],[bb,i],[⟨.ret,[],⟨[a],[bb],[]⟩⟩],u6 qe⟩
theorem ab1 :ci Tryz.prog zR:=aB (at':= .no) (.cons sS (.nil _)) (fun _=>by kernel_rfl)
def zP :FSum:=⟨229,[f,a],[bb,i],[⟨.ret,[],⟨[a],[bb],[]⟩⟩],u6 qc⟩
theorem aa9 :ci Tryz.prog zP:=aB (at':= .no) (.cons sS (.nil _)) (fun _=>by kernel_rfl)
def xP :FSum:=⟨230,[f,a],[bb,i],[⟨.ret,[],⟨[a],[bb],[]⟩⟩],u6 mB⟩
theorem xU :ci Tryz.prog xP:=aB (at':= .no) (.nil _) (fun _=>by kernel_rfl)
def ak0 :FSum:=⟨92,[f,(.agg [a,a])],[bb,l],[⟨.ret,[],⟨[a],[bb,l],[]⟩⟩],u7 jw⟩
theorem ve :ci Tryz.prog ak0:=aB (at':=(.n .no (.jn [] [] [⟨.ret,[4],⟨[(.cint .i64 2)],[],[]⟩⟩,⟨.normal,[],⟨[],[],[]⟩⟩] (.n (.n .no (.n .no (.jn [] [] [⟨.normal,[8],⟨[k],[],[]⟩⟩] .no .no))) .no) .no))) (.cons aS2 (.cons yX (.cons xS (.cons yY (.cons xT (.cons ab0 (.cons ab1 (.cons aa9 (.cons xU (.nil _)))))))))) (fun _=>by kernel_rfl)
def aj3 :FSum:=⟨93,[f],[ay,c,c,g,g,i,af,m,c],[⟨.ret,[],⟨[(.agg [.nilf,(.fn 174 [f] []),(.fn 175 [f] []),(.fn 176 [f] []),(.fn 177 [f] []),(.fn 164 [f] []),(.fn 178 [f] []),(.fn 179 [f] [])])],[],[]⟩⟩],u27 uQ⟩
theorem ak9 :ci Tryz.prog aj3:=aB (at':= .no) (.nil _) (fun _=>by kernel_rfl)
def aN2 :FSum:=⟨267,[ap,(.leaf ah)],[],[⟨.ret,[],⟨[(.tup [(.full 0),j,a])],[],[(.arr false bh),b]⟩⟩],u3 vz⟩
theorem aN9 :ci Tryz.prog aN2:=aB (at':= .no) (.cons vd (.nil _)) (fun _=>by kernel_rfl)
def aN1 :FSum:=⟨269,[a,bi],[],[⟨.ret,[],⟨[(.tup [])],[],[]⟩⟩],u6 vy⟩
theorem aN8 :ci Tryz.prog aN1:=aB (at':= .no) (.nil _) (fun _=>by kernel_rfl)
def aQ9 :FSum:=⟨268,[(.full 0),j,a,(.fn 269 [] [])],[(.arr true bh),b],[⟨.ret,[],⟨[(.tup [])],[b],[]⟩⟩],u3 tw⟩
theorem aS3 :ci Tryz.prog aQ9:=aB (at':=(.n .no (.n .no (.n (.lp [1,2] ⟨.normal,[9,11,10],⟨[a,a,a],[b,bj],[]⟩⟩ [⟨.ret,[],⟨[],[b,bj],[]⟩⟩] .no) .no)))) (.cons al8 (.cons aN8 (.nil _))) (fun _=>by kernel_rfl)
def bb3 :FSum:=⟨231,[ap,(.leaf ah)],[],[⟨.ret,[],⟨[(.tup [(.full 0),a])],[],[b]⟩⟩],u3 qG⟩
theorem av9 :ci Tryz.prog bb3:=aB (at':= .no) (.cons aN9 (.cons aS3 (.nil _))) (fun _=>by kernel_rfl)
def zD :FSum:=⟨174,[f,a],[au,c,c,g,g,i,af,m,b],[⟨.ret,[],⟨[(.tup [])],[au,b],[]⟩⟩],u28 tn⟩
theorem zZ :ci Tryz.prog zD:=aB (at':=(.n .no (.n (.lp [0,8] ⟨.normal,[8],⟨[a],[au,b],[]⟩⟩ [⟨(.exit 0),[],⟨[],[au,b],[]⟩⟩] (.n .no (.n .no (.n (.n (.n .no (.n (.dr [0,1,2,3,4,5,6,7,8,9,10,11,13,14,15,16,17,18,19,1020,12,20,21,22,23,24,25,26,27]) .no)) .no) .no)))) .no))) (.cons eb (.cons rk (.cons av9 (.cons gm (.nil _))))) (fun _=>by kernel_rfl)
def zO :FSum:=⟨94,[f],[(.cells 1 true [a,a,a,a,j]),i],[⟨.ret,[],⟨[(.agg [a,a,p])],[],[l]⟩⟩],u5 cz⟩
theorem tI :ci Tryz.prog zO:=aB (at':= .no) (.cons tK (.nil _)) (fun _=>by kernel_rfl)
def au5 :FSum:=⟨232,[.nilp,a,a,(.leaf ah)],[],[⟨.ret,[],⟨[(.cint .i64 1)],[],[]⟩⟩],u3 vU⟩
theorem av4 :ci Tryz.prog au5:=fh (ins:=[⟨270,ed Tryz.prog 270 ⟨[],[]⟩ .no⟩]) (at':= .no) (.nil _) (bB.cons (cy (.nil _) (bB.nil _)) (bB.nil _)) (fun _=>by kernel_rfl)
def aj6 :FSum:=⟨175,[f,a],[ay,c,c,g,g,i,af,d,c],[⟨.ret,[],⟨[(.tup [])],[d],[]⟩⟩],u28 uR⟩
theorem al3 :ci Tryz.prog aj6:=aB (at':= .no) (.cons er (.cons eb (.cons av4 (.nil _)))) (fun _=>by kernel_rfl)
def ag8 :FSum:=⟨233,[.nilp,a],[],[⟨.ret,[],⟨[(.tup [(.cint .i64 0), .nils,(.cint .i64 1)])],[],[]⟩⟩],uc⟩
theorem ai3 :ci Tryz.prog ag8:=fh (ins:=[⟨270,ed Tryz.prog 270 ⟨[],[]⟩ .no⟩]) (at':= .no) (.nil _) (bB.cons (cy (.nil _) (bB.nil _)) (bB.nil _)) (fun _=>by kernel_rfl)
def zH :FSum:=⟨176,[f,a],[ay,c,c,g,g,i,af,m,b],[⟨.ret,[],⟨[(.tup [])],[b],[]⟩⟩],u28 tu⟩
theorem aa2 :ci Tryz.prog zH:=aB (at':= .no) (.cons ai3 (.cons gm (.nil _))) (fun _=>by kernel_rfl)
def ax0 :FSum:=⟨234,[.nilp,a],[],[⟨.ret,[],⟨[(.cint .i64 1)],[],[]⟩⟩],wU⟩
theorem ax8 :ci Tryz.prog ax0:=fh (ins:=[⟨270,ed Tryz.prog 270 ⟨[],[]⟩ .no⟩]) (at':= .no) (.nil _) (bB.cons (cy (.nil _) (bB.nil _)) (bB.nil _)) (fun _=>by kernel_rfl)
def au2 :FSum:=⟨177,[f,a],[ay,c,c,g,g,i,af,d,c],[⟨.ret,[],⟨[(.tup [])],[d],[]⟩⟩],u28 vS⟩
theorem av1 :ci Tryz.prog au2:=aB (at':= .no) (.cons ax8 (.cons fy (.nil _))) (fun _=>by kernel_rfl)
def ag2 :FSum:=⟨220,[f,(.agg [a,j]),p,q,r],[(.cells 1 false [a,a,a,a,a,v,aq,a,j,a,(.full 7),a,a,(.full 8),ao, .nilp,(.ptr 10 0),a,a,a,a,a,a,a,h]),g,b,b,c,c,c,g,i,(.cells 1 true [(.full 11),a]),m,b],[⟨.ret,[],⟨[(.tup [])],[(.cells 1 false [a,a,a,a,a,v,aq,a,j,a,(.full 7),a,a,(.full 8),ao, .nilp,(.ptr 10 0),a,a,a,a,a,a,a,h]),b,b,b],[]⟩⟩],u31 ua⟩
theorem ah5 :ci Tryz.prog ag2:=aB (at':=(.n .no (.n .no (.n .no (.n .no (.n .no (.n .no (.n (.n .no (.n (.lp [13] ⟨.normal,[36],⟨[a],[b],[]⟩⟩ [⟨(.exit 0),[],⟨[],[b],[]⟩⟩] .no) .no)) .no)))))))) (.cons wu (.cons gm (.cons eb (.nil _)))) (fun _=>by kernel_rfl)
def rU :FSum:=⟨166,[f,j,p],[(.cells 1 false [a,a,a,a,a,q,r,a,v,a,aq,a,a,(.full 7),bg, .nilp,ao,a,a,a,a,a,a,a,h]),b,c,c,c,g,g,i,(.cells 1 true [(.full 10),a]),m,b],[⟨.ret,[],⟨[(.tup [])],[(.cells 1 false [a,a,a,a,a,q,r,a,v,a,aq,a,a,(.full 7),bg, .nilp,ao,a,a,a,a,a,a,a,h]),b,b],[]⟩⟩],u29 rS⟩
theorem wc :ci Tryz.prog rU:=aB (at':= .no) (.cons eb (.cons rH (.cons ah5 (.nil _)))) (fun _=>by kernel_rfl)
def au1 :FSum:=⟨178,[f,a],[au,c,c,g,g,i,af,d,b],[⟨.ret,[],⟨[(.tup [])],[au,d,b],[]⟩⟩],u28 vR⟩
theorem av0 :ci Tryz.prog au1:=fh (ins:=[⟨216,ed Tryz.prog 216 ⟨[iM,iL],[⟨235,ed Tryz.prog 235 ⟨[rj,sC,rU],[]⟩ .no⟩]⟩ .no⟩]) (at':= .no) (.cons pp (.nil _)) (bB.cons (cy (.cons er (.cons fy (.nil _))) (bB.cons (cy (.cons rl (.cons w6 (.cons wc (.nil _)))) (bB.nil _)) (bB.nil _))) (bB.nil _)) (fun _=>by kernel_rfl)
def zI :FSum:=⟨179,[f,a],[au,c,c,g,g,i,af,d,b],[⟨.ret,[],⟨[(.tup [])],[au,d,b],[]⟩⟩],u28 tv⟩
theorem aa3 :ci Tryz.prog zI:=fh (ins:=[⟨216,ed Tryz.prog 216 ⟨[iM,iL],[⟨236,ed Tryz.prog 236 ⟨[rj,rU],[]⟩ .no⟩]⟩ .no⟩]) (at':= .no) (.cons pp (.nil _)) (bB.cons (cy (.cons er (.cons fy (.nil _))) (bB.cons (cy (.cons rl (.cons wc (.nil _))) (bB.nil _)) (bB.nil _))) (bB.nil _)) (fun _=>by kernel_rfl)
def aA9 :FSum:=⟨26,[f,(.agg [a,a])],[au,c,c,g,g,i,af,d,b],[⟨.ret,[],⟨[a],[au,d,b],[]⟩⟩],u29 cD⟩
theorem ya :ci Tryz.prog aA9:=aB (at':= .no) (.cons sR (.cons al1 (.cons vZ (.cons aa8 (.cons ve (.cons ak9 (.cons zZ (.cons tI (.cons al3 (.cons aa2 (.cons av1 (.cons wb (.cons av0 (.cons aa3 (.nil _))))))))))))))) (fun _=>by kernel_rfl)
def af8 :FSum:=⟨27,[f],[ay,c,c,g,g,i,af,m,c],[⟨.ret,[],⟨[(.tup [(.agg [h,(.full 9),(.full 10)]),a])],[],[b,b]⟩⟩],u27 ge⟩
theorem ui :ci Tryz.prog af8:=aB (at':= .no) (.cons eb (.nil _)) (fun _=>by kernel_rfl)
def bl4 :FSum:=⟨31,[(.agg [h,(.leaf ah),(.leaf ah)]),(.agg [h,(.leaf ah),(.leaf ah)])],[],[w],u6 i7⟩
theorem aB7 :ci Tryz.prog bl4:=aB (at':=(.n .no (.n .no (.n (.n .no (.n (.lp [] ⟨.normal,[5],⟨[a],[],[]⟩⟩ [⟨.ret,[4],⟨[k],[],[]⟩⟩,⟨(.exit 0),[],⟨[],[],[]⟩⟩] .no) .no)) (.n (.n .no (.n (.lp [] ⟨.normal,[6],⟨[a],[],[]⟩⟩ [⟨.ret,[4],⟨[k],[],[]⟩⟩,⟨(.exit 2),[],⟨[],[],[]⟩⟩] .no) .no)) .no))))) (.nil _) (fun _=>by kernel_rfl)
def ai9 :FSum:=⟨58,[f],[ay,c,c,g,g,i,af,m,c],[⟨.ret,[],⟨[(.agg [a,a,a,a])],[],[]⟩⟩],u27 uP⟩
theorem ak6 :ci Tryz.prog ai9:=aB (at':= .no) (.nil _) (fun _=>by kernel_rfl)
def xJ :FSum:=⟨64,[f],[ax,c,c,g,g,i,aj,ag,m,c],[w],u30 mt⟩
theorem xQ :ci Tryz.prog xJ:=aB (at':= .no) (.nil _) (fun _=>by kernel_rfl)
def nB :FSum:=⟨95,[f,a],[ax,c,c,g,g,i,aj,ag,m,c],[⟨.ret,[],⟨[(.full 10)],[],[b]⟩⟩],u31 co⟩
theorem dv :ci Tryz.prog nB:=aB (at':= .no) (.cons jk (.nil _)) (fun _=>by kernel_rfl)
def zE :FSum:=⟨214,[f,ap,(.leaf ah),(.leaf ah)],[ax,c,c,g,g,i,aj,ag,m,c],[⟨.ret,[],⟨[(.full 10)],[],[b]⟩⟩],u34 io⟩
theorem qt :ci Tryz.prog zE:=aB (at':= .no) (.cons dv (.cons pD (.nil _))) (fun _=>by kernel_rfl)
def qr :FSum:=⟨162,[f],[ar,c,c,g,g,i,aj,ag,m,b],[⟨.ret,[],⟨[(.tup [(.full 10),(.full 11)])],[ar,b],[b,b]⟩⟩],u30 ip⟩
theorem qu :ci Tryz.prog qr:=aB (at':=(.n .no (.n .no (.n (.dr [0,1,2,3,4,5,6,8,9,10,11,12,15,1013,1016,7,13,1016,14,17,16,18]) .no)))) (.cons pp (.cons dv (.cons qt (.cons uI (.cons fm (.nil _)))))) (fun _=>by kernel_rfl)
def zJ :FSum:=⟨163,[f,a],[ax,c,c,g,g,i,aj,ag,m,c],[o],u31 pW⟩
theorem aa4 :ci Tryz.prog zJ:=aB (at':= .no) (.nil _) (fun _=>by kernel_rfl)
def ag3 :FSum:=⟨220,[f,(.agg [a,j]),p,q,r],[(.cells 1 false [a,a,a,a,a,v,aq,a,(.full 7),a,j,a,a,(.full 8),ao,(.ptr 10 0),(.ptr 11 0),a,a,a,a,a,a,a,h]),g,b,b,c,c,c,g,i,(.cells 1 true [bl,a]),(.cells 1 true [a,a,a,ao]),m,b],[⟨.ret,[],⟨[(.tup [])],[(.cells 1 false [a,a,a,a,a,v,aq,a,(.full 7),a,j,a,a,(.full 8),ao,(.ptr 10 0),(.ptr 11 0),a,a,a,a,a,a,a,h]),b,b,b],[]⟩⟩],u34 mj⟩
theorem ah6 :ci Tryz.prog ag3:=aB (at':=(.n .no (.n .no (.n .no (.n .no (.n .no (.n .no (.n (.n .no (.n (.lp [14] ⟨.normal,[36],⟨[a],[b],[]⟩⟩ [⟨(.exit 0),[],⟨[],[b],[]⟩⟩] .no) .no)) .no)))))))) (.cons wu (.cons fm (.cons dv (.nil _)))) (fun _=>by kernel_rfl)
def ri :FSum:=⟨218,[f,(.leaf ah)],[ar,c,c,g,g,i,aj,ag,m,b],[⟨.ret,[],⟨[(.tup [])],[ar,b],[]⟩⟩],u31 jr⟩
theorem vc :ci Tryz.prog ri:=aB (at':=(.n .no (.n (.dr [0,1,2,3,4,5,6,8,1009,7,10,9,11]) .no))) (.cons pp (.cons qt (.cons uI (.cons fm (.cons rH (.cons ah6 (.nil _))))))) (fun _=>by kernel_rfl)
def ag7 :FSum:=⟨164,[f,a],[ar,c,c,g,g,i,aj,ag,d,b],[⟨.ret,[],⟨[(.tup [])],[ar,d,b],[]⟩⟩],u31 je⟩
theorem uk :ci Tryz.prog ag7:=fh (ins:=[⟨216,ed Tryz.prog 216 ⟨[iM,iL],[⟨217,ed Tryz.prog 217 ⟨[nB,ri],[]⟩ .no⟩]⟩ .no⟩]) (at':= .no) (.cons pp (.nil _)) (bB.cons (cy (.cons er (.cons fy (.nil _))) (bB.cons (cy (.cons dv (.cons vc (.nil _))) (bB.nil _)) (bB.nil _))) (bB.nil _)) (fun _=>by kernel_rfl)
def zG :FSum:=⟨90,[f,(.agg [a,a])],[ar,c,c,g,g,i,aj,ag,d,b],[⟨.ret,[],⟨[a],[ar,d,b],[]⟩⟩],u32 tt⟩
theorem aa1 :ci Tryz.prog zG:=fh (ins:=[⟨166,ed Tryz.prog 166 ⟨[nB,zL],[⟨220,ed Tryz.prog 220 ⟨[uV,nB],[⟨265,ed Tryz.prog 265 ⟨[aj7,yv],[⟨296,ed Tryz.prog 296 ⟨[],[⟨333,ed Tryz.prog 333 ⟨[tF],[]⟩ .no⟩]⟩ (.n .no (.n .no (.n .no (.n (.lp [11,13,18] ⟨.normal,[7,8,2],⟨[a,a,a],[b,b,bj],[]⟩⟩ [⟨.ret,[],⟨[],[b,b,bj],[]⟩⟩] .no) .no))))⟩]⟩ .no⟩]⟩ (.n .no (.n .no (.n .no (.n .no (.n .no (.n .no (.n (.n .no (.n (.sz 20 (.lp [19] ⟨.normal,[36],⟨[a],[b],[]⟩⟩ [⟨(.exit 0),[],⟨[],[b],[]⟩⟩] .no) (.lp [17] ⟨.normal,[36],⟨[a],[b],[]⟩⟩ [⟨(.exit 0),[],⟨[],[b],[]⟩⟩] .no)) .no)) .no)))))))⟩]⟩ .no⟩]) (at':=(.n .no (.jn [] [] [⟨.normal,[5],⟨[k],[],[]⟩⟩] .no (.jn [] [] [⟨.ret,[4],⟨[a],[],[]⟩⟩,⟨.normal,[],⟨[],[],[]⟩⟩] (.n (.jn [] [] [⟨.normal,[19],⟨[k],[],[]⟩⟩] .no (.n .no (.jn [] [] [⟨.normal,[32],⟨[k],[],[]⟩⟩] .no .no))) .no) .no)))) (.cons er (.cons qu (.cons aa4 (.cons iw (.cons fm (.cons uk (.cons jk (.cons fy (.nil _))))))))) (bB.cons (cy (.cons dv (.cons rH (.nil _))) (bB.cons (cy (.cons fm (.cons dv (.nil _))) (bB.cons (cy (.cons vd (.cons qH (.nil _))) (bB.cons (cy (.nil _) (bB.cons (cy (.cons tJ (.nil _)) (bB.nil _)) (bB.nil _))) (bB.nil _))) (bB.nil _))) (bB.nil _))) (bB.nil _)) (fun _=>by kernel_rfl)
def qs :FSum:=⟨181,[(.agg [a,a,a]),a],[],[o],u4 eo⟩
theorem lB :ci Tryz.prog qs:=aB (at':= .no) (.cons qw (.nil _)) (fun _=>by kernel_rfl)
def qW :FSum:=⟨180,[f,a],[(.cells 1 true [j,a]),c],[⟨.ret,[],⟨[(.tup [h,a])],[],[]⟩⟩],u3 gB⟩
theorem nD :ci Tryz.prog qW:=fh (ins:=[⟨202,ed Tryz.prog 202 ⟨[],[⟨219,ed Tryz.prog 219 ⟨[kn],[]⟩ .no⟩]⟩ .no⟩]) (at':= .no) (.nil _) (bB.cons (cy (.nil _) (bB.cons (cy (.cons fg (.nil _)) (bB.nil _)) (bB.nil _))) (bB.nil _)) (fun _=>by kernel_rfl)
def ak2 :FSum:=⟨96,[f],[(.cells 1 true [a,a,a,(.ptr 1 0)]),(.cells 1 true [p,a]),c],[⟨.ret,[],⟨[q],[],[l]⟩⟩],u5 iT⟩
theorem rm :ci Tryz.prog ak2:=aB (at':=(.n .no (.n .no (.n .no (.n (.n .no (.n (.lp [] ⟨.normal,[14,3],⟨[a,q],[],[l]⟩⟩ [⟨(.exit 0),[3],⟨[q],[],[l]⟩⟩] .no) .no)) .no))))) (.cons lB (.cons nD (.nil _))) (fun _=>by kernel_rfl)
def af9 :FSum:=⟨29,[f],[ax,c,c,g,g,i,aj,ag,m,c],[⟨.ret,[],⟨[(.agg [a,a,(.full 10)])],[],[l]⟩⟩],u30 eu⟩
theorem uj :ci Tryz.prog af9:=aB (at':= .no) (.cons rm (.nil _)) (fun _=>by kernel_rfl)
def zF :FSum:=⟨93,[f],[ax,c,c,g,g,i,aj,ag,m,c],[⟨.ret,[],⟨[(.agg [.nilf,(.fn 174 [f] []),(.fn 175 [f] []),(.fn 176 [f] []),(.fn 177 [f] []),(.fn 164 [f] []),(.fn 178 [f] []),(.fn 179 [f] [])])],[],[]⟩⟩],u30 pV⟩
theorem aa0 :ci Tryz.prog zF:=aB (at':= .no) (.nil _) (fun _=>by kernel_rfl)
def yq :FSum:=⟨174,[f,a],[ar,c,c,g,g,i,aj,ag,m,b],[⟨.ret,[],⟨[(.tup [])],[ar,b],[]⟩⟩],u31 jm⟩
theorem yy :ci Tryz.prog yq:=aB (at':=(.n .no (.n (.lp [0,9] ⟨.normal,[8],⟨[a],[ar,b],[]⟩⟩ [⟨(.exit 0),[],⟨[],[ar,b],[]⟩⟩] (.n .no (.n .no (.n (.n (.n .no (.n (.dr [0,1,2,3,4,5,6,7,8,9,10,11,13,14,15,16,17,18,19,1020,12,20,21,22,23,24,25,26,27]) .no)) .no) .no)))) .no))) (.cons dv (.cons qt (.cons av9 (.cons fm (.nil _))))) (fun _=>by kernel_rfl)
def qX :FSum:=⟨297,[(.agg [a,a,a]),a],[],[w],u4 ke⟩
theorem tM :ci Tryz.prog qX:=aB (at':= .no) (.nil _) (fun _=>by kernel_rfl)
def ag9 :FSum:=⟨232,[f,a,a,(.leaf ah)],[(.cells 1 true [a,a,a,(.ptr 1 0)]),(.cells 1 true [p,a]),b],[⟨.ret,[],⟨[a],[b],[]⟩⟩],u8 qO⟩
theorem ai4 :ci Tryz.prog ag9:=fh (ins:=[⟨270,ed Tryz.prog 270 ⟨[qX,qs,qW],[⟨271,ed Tryz.prog 271 ⟨[rT],[]⟩ (.n .no (.n (.n (.jn [] [] [⟨.normal,[8],⟨[k],[],[]⟩⟩] .no .no) .no) .no))⟩]⟩ .no⟩]) (at':= .no) (.nil _) (bB.cons (cy (.cons tM (.cons lB (.cons nD (.nil _)))) (bB.cons (cy (.cons iw (.nil _)) (bB.nil _)) (bB.nil _))) (bB.nil _)) (fun _=>by kernel_rfl)
def zK :FSum:=⟨175,[f,a],[ax,c,c,g,g,i,aj,ag,d,b],[⟨.ret,[],⟨[(.tup [])],[d,b],[]⟩⟩],u31 ld⟩
theorem aa5 :ci Tryz.prog zK:=aB (at':= .no) (.cons er (.cons dv (.cons ai4 (.nil _)))) (fun _=>by kernel_rfl)
def yV :FSum:=⟨233,[f,a],[(.cells 1 true [a,a,a,(.ptr 1 0)]),(.cells 1 true [p,a]),c],[⟨.ret,[],⟨[(.tup [a,q,a])],[],[b]⟩⟩],u6 po⟩
theorem yZ :ci Tryz.prog yV:=fh (ins:=[⟨270,ed Tryz.prog 270 ⟨[qX,qs,qW],[⟨272,ed Tryz.prog 272 ⟨[wV],[]⟩ .no⟩]⟩ .no⟩]) (at':= .no) (.nil _) (bB.cons (cy (.cons tM (.cons lB (.cons nD (.nil _)))) (bB.cons (cy (.cons jk (.nil _)) (bB.nil _)) (bB.nil _))) (bB.nil _)) (fun _=>by kernel_rfl)
def yr :FSum:=⟨176,[f,a],[ax,c,c,g,g,i,aj,ag,m,b],[⟨.ret,[],⟨[(.tup [])],[b],[]⟩⟩],u31 jo⟩
theorem yz :ci Tryz.prog yr:=aB (at':= .no) (.cons yZ (.cons fm (.nil _))) (fun _=>by kernel_rfl)
def ak1 :FSum:=⟨234,[f,a],[(.cells 1 true [a,a,a,(.ptr 1 0)]),(.cells 1 true [p,a]),b],[⟨.ret,[],⟨[a],[b],[]⟩⟩],u6 re⟩
theorem am1 :ci Tryz.prog ak1:=fh (ins:=[⟨270,ed Tryz.prog 270 ⟨[qX,qs,qW],[⟨273,ed Tryz.prog 273 ⟨[wZ,rT],[]⟩ .no⟩]⟩ .no⟩]) (at':= .no) (.nil _) (bB.cons (cy (.cons tM (.cons lB (.cons nD (.nil _)))) (bB.cons (cy (.cons qw (.cons iw (.nil _))) (bB.nil _)) (bB.nil _))) (bB.nil _)) (fun _=>by kernel_rfl)
def ag6 :FSum:=⟨177,[f,a],[ax,c,c,g,g,i,aj,ag,d,b],[⟨.ret,[],⟨[(.tup [])],[d,b],[]⟩⟩],u31 mp⟩
theorem ah9 :ci Tryz.prog ag6:=aB (at':= .no) (.cons am1 (.cons fy (.nil _))) (fun _=>by kernel_rfl)
def ag4 :FSum:=⟨220,[f,(.agg [a,j]),p,q,r],[(.cells 1 false [a,a,a,a,a,v,aq,a,j,a,(.full 7),a,a,(.full 8),ao,(.ptr 10 0),(.ptr 11 0),a,a,a,a,a,a,a,h]),g,b,b,c,c,c,g,i,(.cells 1 true [bl,a]),(.cells 1 true [a,a,a,ao]),m,b],[⟨.ret,[],⟨[(.tup [])],[(.cells 1 false [a,a,a,a,a,v,aq,a,j,a,(.full 7),a,a,(.full 8),ao,(.ptr 10 0),(.ptr 11 0),a,a,a,a,a,a,a,h]),b,b,b],[]⟩⟩],u34 mm⟩
theorem ah7 :ci Tryz.prog ag4:=aB (at':=(.n .no (.n .no (.n .no (.n .no (.n .no (.n .no (.n (.n .no (.n (.lp [14] ⟨.normal,[36],⟨[a],[b],[]⟩⟩ [⟨(.exit 0),[],⟨[],[b],[]⟩⟩] .no) .no)) .no)))))))) (.cons wu (.cons fm (.cons dv (.nil _)))) (fun _=>by kernel_rfl)
def qQ :FSum:=⟨166,[f,j,p],[(.cells 1 false [a,a,a,a,a,q,r,a,v,a,aq,a,a,(.full 7),bg,ao,(.ptr 10 0),a,a,a,a,a,a,a,h]),b,c,c,c,g,g,i,(.cells 1 true [(.full 11),a]),(.cells 1 true [a,a,a,bg]),m,b],[⟨.ret,[],⟨[(.tup [])],[(.cells 1 false [a,a,a,a,a,q,r,a,v,a,aq,a,a,(.full 7),bg,ao,(.ptr 10 0),a,a,a,a,a,a,a,h]),b,b],[]⟩⟩],u32 jf⟩
theorem ul :ci Tryz.prog qQ:=aB (at':= .no) (.cons dv (.cons rH (.cons ah7 (.nil _)))) (fun _=>by kernel_rfl)
def ag5 :FSum:=⟨178,[f,a],[ar,c,c,g,g,i,aj,ag,d,b],[⟨.ret,[],⟨[(.tup [])],[ar,d,b],[]⟩⟩],u31 mn⟩
theorem ah8 :ci Tryz.prog ag5:=fh (ins:=[⟨216,ed Tryz.prog 216 ⟨[iM,iL],[⟨235,ed Tryz.prog 235 ⟨[qr,ri,qQ],[]⟩ .no⟩]⟩ .no⟩]) (at':= .no) (.cons pp (.nil _)) (bB.cons (cy (.cons er (.cons fy (.nil _))) (bB.cons (cy (.cons qu (.cons vc (.cons ul (.nil _)))) (bB.nil _)) (bB.nil _))) (bB.nil _)) (fun _=>by kernel_rfl)
def yt :FSum:=⟨179,[f,a],[ar,c,c,g,g,i,aj,ag,d,b],[⟨.ret,[],⟨[(.tup [])],[ar,d,b],[]⟩⟩],u31 jp⟩
theorem yA :ci Tryz.prog yt:=fh (ins:=[⟨216,ed Tryz.prog 216 ⟨[iM,iL],[⟨236,ed Tryz.prog 236 ⟨[qr,qQ],[]⟩ .no⟩]⟩ .no⟩]) (at':= .no) (.cons pp (.nil _)) (bB.cons (cy (.cons er (.cons fy (.nil _))) (bB.cons (cy (.cons qu (.cons ul (.nil _))) (bB.nil _)) (bB.nil _))) (bB.nil _)) (fun _=>by kernel_rfl)
def at5 :FSum:=⟨26,[f,(.agg [a,a])],[ar,c,c,g,g,i,aj,ag,d,b],[⟨.ret,[],⟨[a],[ar,d,b],[]⟩⟩],u32 cv⟩
theorem vY :ci Tryz.prog at5:=aB (at':= .no) (.cons xQ (.cons aa1 (.cons uj (.cons aa8 (.cons ve (.cons aa0 (.cons yy (.cons tI (.cons aa5 (.cons yz (.cons ah9 (.cons uk (.cons ah8 (.cons yA (.nil _))))))))))))))) (fun _=>by kernel_rfl)
def yQ :FSum:=⟨27,[f],[ax,c,c,g,g,i,aj,ag,m,c],[⟨.ret,[],⟨[(.tup [(.agg [h,(.full 10),(.full 11)]),a])],[],[b,b]⟩⟩],u30 ew⟩
theorem sQ :ci Tryz.prog yQ:=aB (at':= .no) (.cons dv (.nil _)) (fun _=>by kernel_rfl)
def zy :FSum:=⟨58,[f],[ax,c,c,g,g,i,aj,ag,m,c],[⟨.ret,[],⟨[(.agg [a,a,a,a])],[],[]⟩⟩],u30 tj⟩
theorem zV :ci Tryz.prog zy:=aB (at':= .no) (.nil _) (fun _=>by kernel_rfl)
def bk2 :FSum:=⟨11,[],[],[w],fun _=>nk⟩
theorem bm4 :ci Tryz.prog bk2:=aB (at':=(.n .no (.n .no (.sz 13 (.n .no (.n .no (.n (.n .no (.n (.n .no (.n .no (.n .no (.n .no (.n .no (.n .no (.n .no (.n .no (.n .no .no))))))))) .no)) .no))) (.sz 4012 (.n .no (.n .no (.n (.n .no (.n (.n .no (.n .no (.n .no (.n .no (.n .no (.n .no (.n .no (.n .no (.n .no .no))))))))) .no)) .no))) (.n .no (.n .no (.n (.n .no (.n (.n .no (.n .no (.n .no (.n .no (.n .no (.n .no (.n .no (.n .no (.n .no .no))))))))) .no)) .no)))))))) (.cons aO0 (.cons aK5 (.cons ya (.cons ui (.cons aB7 (.cons ak6 (.cons vY (.cons sQ (.cons zV (.nil _)))))))))) (fun _=>by kernel_rfl)
def at7 :FSum:=⟨25,[f],[au,c,c,g,g,i,af,m,c],[⟨.ret,[],⟨[a],[au],[]⟩⟩],u27 gx⟩
theorem au7 :ci Tryz.prog at7:=aB (at':= .no) (.nil _) (fun _=>by kernel_rfl)
def at4 :FSum:=⟨89,[f],[(.cells 1 true [j,a]),c],[⟨.ret,[],⟨[p],[],[b]⟩⟩],u2 kt⟩
theorem vX :ci Tryz.prog at4:=aB (at':= .no) (.cons fg (.nil _)) (fun _=>by kernel_rfl)
def aj0 :FSum:=⟨23,[f],[ay,c,c,g,g,i,af,m,c],[⟨.ret,[],⟨[(.full 9)],[],[b]⟩⟩],u27 nh⟩
theorem ak7 :ci Tryz.prog aj0:=aB (at':= .no) (.cons vX (.nil _)) (fun _=>by kernel_rfl)
def aw8 :FSum:=⟨140,[f],[m],[o],u3 lu⟩
theorem w7 :ci Tryz.prog aw8:=aB (at':= .no) (.nil _) (fun _=>by kernel_rfl)
def at6 :FSum:=⟨71,[f],[ay,c,c,g,g,i,af,m,c],[o],u27 rQ⟩
theorem au6 :ci Tryz.prog at6:=aB (at':= .no) (.cons w7 (.nil _)) (fun _=>by kernel_rfl)
def aw9 :FSum:=⟨142,[f],[m],[o],u3 lw⟩
theorem w8 :ci Tryz.prog aw9:=aB (at':= .no) (.nil _) (fun _=>by kernel_rfl)
def at8 :FSum:=⟨73,[f],[ay,c,c,g,g,i,af,m,c],[o],u27 rR⟩
theorem au8 :ci Tryz.prog at8:=aB (at':= .no) (.cons w8 (.nil _)) (fun _=>by kernel_rfl)
def zB :FSum:=⟨24,[f],[ay,c,c,g,g,i,af,m,c],[⟨.ret,[],⟨[bt],[],[]⟩⟩],u27 fj⟩
theorem zX :ci Tryz.prog zB:=aB (at':=(.n .no (.n .no (.n .no (.n .no (.n (.n .no (.n (.lp [10] ⟨.normal,[50],⟨[a],[(.cells 1 false [h,h,h,h,h,h,h,h,h,h,h,h,h,h,h,h])],[]⟩⟩ [⟨(.exit 0),[],⟨[],[(.cells 1 false [h,h,h,h,h,h,h,h,h,h,h,h,h,h,h,h])],[]⟩⟩] .no) .no)) .no)))))) (.cons au6 (.cons au8 (.nil _))) (fun _=>by kernel_rfl)
def vW :FSum:=⟨145,[f,h],[br,c,c,g,g,i],[w],u23 ja⟩
theorem av3 :ci Tryz.prog vW:=aB (at':= .no) (.nil _) (fun _=>by kernel_rfl)
def aA8 :FSum:=⟨146,[(.leaf ah)],[],[⟨.ret,[],⟨[(.tup [.nilp,a])],[],[]⟩⟩,⟨.ret,[],⟨[(.tup [f,(.cint .i64 0)])],[],[(.cells 1 false [j,(.cint .i64 0)]),b]⟩⟩],wh⟩
theorem bm1 :ci Tryz.prog aA8:=aB (at':= .no) (.cons av7 (.cons fg (.nil _))) (fun _=>by kernel_rfl)
def uT :FSum:=⟨63,[.nilp,a],[],[⟨.ret,[],⟨[(.tup [(.cint .i64 0),(.cint .i64 1)])],[],[]⟩⟩],uN⟩
theorem ak5 :ci Tryz.prog uT:=aB (at':= .no) (.nil _) (fun _=>by kernel_rfl)
def xK :FSum:=⟨64,[f],[br,c,c,g,g,i],[w],u22 mv⟩
theorem rN :ci Tryz.prog xK:=aB (at':= .no) (.nil _) (fun _=>by kernel_rfl)
def bc2 :FSum:=⟨204,[.nilp,a,a,a],[],[⟨.ret,[],⟨[(.tup [.nilp,(.cint .i64 1)])],[],[]⟩⟩],u3 av6⟩
theorem bd2 :ci Tryz.prog bc2:=aB (at':= .no) (.nil _) (fun _=>by kernel_rfl)
def uf :FSum:=⟨147,[f],[br,c,c,g,g,i],[w],u22 ub⟩
theorem ai2 :ci Tryz.prog uf:=aB (at':= .no) (.cons rN (.cons bd2 (.nil _))) (fun _=>by kernel_rfl)
def ax2 :FSum:=⟨205,[.nilp],[],[⟨.ret,[],⟨[(.cint .i64 0)],[],[]⟩⟩],fun _=>sB⟩
theorem xc :ci Tryz.prog ax2:=aB (at':=(.n .no (.n .no (.n (.n .no (.n (.lp [] ⟨.normal,[9,3],⟨[(.cint .i64 0),(.cint .i64 0)],[],[]⟩⟩ [⟨(.exit 0),[3],⟨[(.cint .i64 0)],[],[]⟩⟩] .no) .no)) .no)))) (.cons sG (.nil _)) (fun _=>by kernel_rfl)
def vV :FSum:=⟨148,[f],[br,c,c,g,g,i],[o],u22 vT⟩
theorem av2 :ci Tryz.prog vV:=aB (at':= .no) (.cons rN (.cons xc (.nil _))) (fun _=>by kernel_rfl)
def xL :FSum:=⟨64,[f],[(.cells 1 true [a,a,a,a,a,j,p,a,q,a,r,a,a,v,av, .nilp, .nilp,a,a,a,a,a,a,a,h]),c,c,g,g,i,(.cells 1 true [(.full 7),a]),c],[w],u24 gk⟩
theorem rO :ci Tryz.prog xL:=aB (at':= .no) (.nil _) (fun _=>by kernel_rfl)
def aN6 :FSum:=⟨204,[f,a,a,a],[(.cells 1 true [j,a]),c],[⟨.ret,[],⟨[(.tup [.nilp,a])],[],[]⟩⟩,⟨.ret,[],⟨[(.tup [(.ptr 2 0),(.cint .i64 0)])],[],[(.cells 1 false [a,a,a,f])]⟩⟩],u5 su⟩
theorem aO2 :ci Tryz.prog aN6:=aB (at':=(.n .no (.n .no (.n .no (.n .no (.n (.n .no (.n (.lp [] ⟨.normal,[41],⟨[a],[],[]⟩⟩ [⟨.ret,[8,9],⟨[.nilp,(.cint .i64 2)],[],[]⟩⟩,⟨(.exit 1),[],⟨[],[],[]⟩⟩] .no) .no)) .no)))))) (.cons yd (.cons qw (.cons jk (.cons lB (.cons nD (.nil _)))))) (fun _=>by kernel_rfl)
def ag0 :FSum:=⟨29,[f],[(.cells 1 true [a,a,a,a,a,j,p,a,q,a,r,a,a,v,av, .nilp, .nilp,a,a,a,a,a,a,a,h]),c,c,g,g,i,(.cells 1 true [(.full 7),a]),c],[⟨.ret,[],⟨[(.agg [a,a, .nils])],[],[]⟩⟩],u24 tZ⟩
theorem ah3 :ci Tryz.prog ag0:=aB (at':= .no) (.cons sG (.nil _)) (fun _=>by kernel_rfl)
def ag1 :FSum:=⟨29,[f],[(.cells 1 true [a,a,a,a,a,j,p,a,q,a,r,a,a,v,av,ba, .nilp,a,a,a,a,a,a,a,h]),c,c,g,g,i,af,ag,c],[⟨.ret,[],⟨[(.agg [a,a,(.full 9)])],[],[l]⟩⟩],u27 qL⟩
theorem ah4 :ci Tryz.prog ag1:=aB (at':= .no) (.cons rm (.nil _)) (fun _=>by kernel_rfl)
def sM :FSum:=⟨147,[f],[(.cells 1 false [a,a,a,a,a,j,p,a,q,a,r,a,a,v,av, .nilp, .nilp,a,a,a,a,a,a,a,h]),c,c,g,g,i,(.cells 1 true [(.full 7),a]),c],[⟨.ret,[],⟨[k],[(.cells 1 false [a,a,a,a,a,j,p,a,q,a,r,a,a,v,av, .nilp, .nilp,a,a,a,a,a,a,a,h])],[]⟩⟩,⟨.ret,[],⟨[k],[(.cells 1 false [a,a,a,a,a,j,p,a,q,a,r,a,a,v,av,bg, .nilp,a,a,a,a,a,a,a,h])],[(.cells 1 false [a,a,a,av])]⟩⟩],u24 jz⟩
theorem yW :ci Tryz.prog sM:=aB (at':= .no) (.cons rO (.cons aO2 (.cons ah3 (.cons aa8 (.cons ah4 (.nil _)))))) (fun _=>by kernel_rfl)
def ud :FSum:=⟨148,[f],[(.cells 1 true [a,a,a,a,a,j,p,a,q,a,r,a,a,v,av, .nilp, .nilp,a,a,a,a,a,a,a,h]),c,c,g,g,i,(.cells 1 true [(.full 7),a]),c],[o],u24 qM⟩
theorem ai0 :ci Tryz.prog ud:=aB (at':= .no) (.cons rO (.cons xc (.nil _))) (fun _=>by kernel_rfl)
def xM :FSum:=⟨64,[f],[(.cells 1 true [a,a,a,a,a,j,p,a,q,a,r,a,a,v,av,ba, .nilp,a,a,a,a,a,a,a,h]),c,c,g,g,i,af,ag,c],[w],u27 mw⟩
theorem xR :ci Tryz.prog xM:=aB (at':= .no) (.nil _) (fun _=>by kernel_rfl)
def ak3 :FSum:=⟨205,[f],[(.cells 1 true [a,a,a,(.ptr 1 0)]),(.cells 1 true [p,a]),c],[o],u5 rf⟩
theorem am2 :ci Tryz.prog ak3:=aB (at':=(.n .no (.n .no (.n (.n .no (.n (.lp [] ⟨.normal,[9,3],⟨[a,a],[],[]⟩⟩ [⟨(.exit 0),[3],⟨[a],[],[]⟩⟩] .no) .no)) .no)))) (.cons rm (.nil _)) (fun _=>by kernel_rfl)
def ue :FSum:=⟨148,[f],[(.cells 1 true [a,a,a,a,a,j,p,a,q,a,r,a,a,v,av,ba, .nilp,a,a,a,a,a,a,a,h]),c,c,g,g,i,af,ag,c],[o],u27 qN⟩
theorem ai1 :ci Tryz.prog ue:=aB (at':= .no) (.cons xR (.cons am2 (.nil _))) (fun _=>by kernel_rfl)
def bb1 :FSum:=⟨16,[aw,(.leaf ah),bt],[],[⟨.ret,[],⟨[(.tup [.nilp,a])],[],[]⟩⟩,⟨.ret,[],⟨[(.tup [f,(.cint .i64 0)])],[],[au,b,b,(.arr false az),(.arr false az),l,(.cells 1 false [(.full 8),a]),d,b]⟩⟩,⟨.ret,[],⟨[(.tup [f,(.cint .i64 0)])],[],[ar,b,b,(.arr false az),(.arr false az),l,(.cells 1 false [(.full 9),a]),(.cells 1 false [a,a,a,av]),d,b]⟩⟩],u26 oj⟩
theorem bc4 :ci Tryz.prog bb1:=fh (ins:=[⟨76,ed Tryz.prog 76 ⟨[vW,aA8,uT,uf,vV,aR3,wW,sM,ud,ue],[]⟩ (.n .no (.n .no (.n .no (.n .no (.n .no (.n .no (.sz 6011 (.jn [2] [] [⟨.ret,[6],⟨[k],[(.cells 1 false [a,a,a,a,a,q,r,a,v,a,aq,a,a,(.full 7),ao, .nilp, .nilp,a,a,a,a,a,a,a,h])],[]⟩⟩,⟨.ret,[6],⟨[k],[(.cells 1 false [a,a,a,a,a,q,r,a,v,a,aq,a,a,(.full 7),ao,(.ptr 11 0), .nilp,a,a,a,a,a,a,a,h])],[(.cells 1 false [a,a,a,ao])]⟩⟩,⟨.normal,[],⟨[],[(.cells 1 false [a,a,a,a,a,q,r,a,v,a,aq,a,a,(.full 7),ao, .nilp, .nilp,a,a,a,a,a,a,a,h])],[]⟩⟩,⟨.normal,[],⟨[],[(.cells 1 false [a,a,a,a,a,q,r,a,v,a,aq,a,a,(.full 7),ao,(.ptr 11 0), .nilp,a,a,a,a,a,a,a,h])],[(.cells 1 false [a,a,a,ao])]⟩⟩] .no .no) .no)))))))⟩]) (at':= .no) (.cons av8 (.nil _)) (bB.cons (cy (.cons av3 (.cons bm1 (.cons ak5 (.cons ai2 (.cons av2 (.cons aS5 (.cons sE (.cons yW (.cons ai0 (.cons ai1 (.nil _))))))))))) (bB.nil _)) (bB.nil _)) (fun _=>by kernel_rfl)
def bl5 :FSum:=⟨28,[(.agg [a,a,(.leaf (.list x))]),(.agg [a,a,(.leaf (.list x))])],[],[w],u6 lg⟩
theorem bn1 :ci Tryz.prog bl5:=aB (at':=(.n .no (.n .no (.n (.n .no (.n (.lp [] ⟨.normal,[5],⟨[a],[],[]⟩⟩ [⟨.ret,[4],⟨[k],[],[]⟩⟩,⟨(.exit 0),[],⟨[],[],[]⟩⟩] .no) .no)) .no)))) (.nil _) (fun _=>by kernel_rfl)
def aj1 :FSum:=⟨30,[f],[ay,c,c,g,g,i,af,m,c],[⟨.ret,[],⟨[(.full 9)],[],[b]⟩⟩],u27 ie⟩
theorem ak8 :ci Tryz.prog aj1:=aB (at':= .no) (.cons eb (.nil _)) (fun _=>by kernel_rfl)
def bk6 :FSum:=⟨22,[(.leaf ah),(.leaf ah)],[],[w],u2 qg⟩
theorem bm5 :ci Tryz.prog bk6:=aB (at':=(.n .no (.n .no (.n (.n .no (.n (.lp [] ⟨.normal,[5],⟨[a],[],[]⟩⟩ [⟨.ret,[4],⟨[k],[],[]⟩⟩,⟨(.exit 0),[],⟨[],[],[]⟩⟩] .no) .no)) .no)))) (.nil _) (fun _=>by kernel_rfl)
def af6 :FSum:=⟨25,[f],[ar,c,c,g,g,i,aj,ag,m,c],[⟨.ret,[],⟨[a],[ar],[]⟩⟩],u30 gc⟩
theorem ah1 :ci Tryz.prog af6:=aB (at':= .no) (.nil _) (fun _=>by kernel_rfl)
def af5 :FSum:=⟨71,[f],[ax,c,c,g,g,i,aj,ag,m,c],[o],u30 qJ⟩
theorem ah0 :ci Tryz.prog af5:=aB (at':= .no) (.cons w7 (.nil _)) (fun _=>by kernel_rfl)
def af7 :FSum:=⟨73,[f],[ax,c,c,g,g,i,aj,ag,m,c],[o],u30 qK⟩
theorem ah2 :ci Tryz.prog af7:=aB (at':= .no) (.cons w8 (.nil _)) (fun _=>by kernel_rfl)
def yp :FSum:=⟨24,[f],[ax,c,c,g,g,i,aj,ag,m,c],[⟨.ret,[],⟨[bt],[],[]⟩⟩],u30 ej⟩
theorem yx :ci Tryz.prog yp:=aB (at':=(.n .no (.n .no (.n .no (.n .no (.n (.n .no (.n (.lp [11] ⟨.normal,[50],⟨[a],[(.cells 1 false [h,h,h,h,h,h,h,h,h,h,h,h,h,h,h,h])],[]⟩⟩ [⟨(.exit 0),[],⟨[],[(.cells 1 false [h,h,h,h,h,h,h,h,h,h,h,h,h,h,h,h])],[]⟩⟩] .no) .no)) .no)))))) (.cons ah0 (.cons ah2 (.nil _))) (fun _=>by kernel_rfl)
def zC :FSum:=⟨30,[f],[ax,c,c,g,g,i,aj,ag,m,c],[⟨.ret,[],⟨[(.full 10)],[],[b]⟩⟩],u30 gl⟩
theorem zY :ci Tryz.prog zC:=aB (at':= .no) (.cons dv (.nil _)) (fun _=>by kernel_rfl)
def zA :FSum:=⟨23,[f],[ax,c,c,g,g,i,aj,ag,m,c],[⟨.ret,[],⟨[(.full 10)],[],[b]⟩⟩],u30 lb⟩
theorem zW :ci Tryz.prog zA:=aB (at':= .no) (.cons vX (.nil _)) (fun _=>by kernel_rfl)
def vC :FSum:=⟨5,[aw,(.leaf (.list (.pair x x))),a],[],[w],u11 vA⟩
theorem aO1 :ci Tryz.prog vC:=aB (at':=(.n .no (.n (.jn [] [] [⟨.normal,[34],⟨[k],[],[]⟩⟩] .no .no) (.n .no (.n .no (.n .no (.n (.n .no (.n (.sz 11 (.lp [1,9,10] ⟨.normal,[9],⟨[a],[ad,d,b],[]⟩⟩ [⟨(.exit 0),[],⟨[],[ad,d,b],[]⟩⟩] .no) (.lp [1,8,9] ⟨.normal,[9],⟨[a],[ae,d,b],[]⟩⟩ [⟨(.exit 0),[],⟨[],[ae,d,b],[]⟩⟩] .no)) .no)) (.n .no (.sz 22 (.n .no (.n (.n .no (.n (.sz 22 (.lp [1,9,10,12,20,21] ⟨.normal,[12],⟨[a],[ad,d,b,bf,d,b],[]⟩⟩ [y,⟨(.exit 2),[],⟨[],[ad,d,b,bf,d,b],[]⟩⟩] (.n .no (.n (.n (.sz 22 (.jn [1,9,10,12,20,21] [] [y,ak] .no .no) (.sz 13021 (.jn [1,9,10,12,19,20] [] [aa,al] .no .no) (.sz 2021 (.jn [1,8,9,11,19,20] [] [ab,am] .no .no) (.jn [1,8,9,11,18,19] [] [ac,an] .no .no)))) .no) .no))) (.sz 13021 (.lp [1,9,10,12,19,20] ⟨.normal,[12],⟨[a],[ad,d,b,bd,d,b],[]⟩⟩ [aa,⟨(.exit 2),[],⟨[],[ad,d,b,bd,d,b],[]⟩⟩] (.n .no (.n (.n (.sz 22 (.jn [1,9,10,12,20,21] [] [y,ak] .no .no) (.sz 13021 (.jn [1,9,10,12,19,20] [] [aa,al] .no .no) (.sz 2021 (.jn [1,8,9,11,19,20] [] [ab,am] .no .no) (.jn [1,8,9,11,18,19] [] [ac,an] .no .no)))) .no) .no))) (.sz 2021 (.lp [1,8,9,11,19,20] ⟨.normal,[12],⟨[a],[ae,d,b,bc,d,b],[]⟩⟩ [ab,⟨(.exit 2),[],⟨[],[ae,d,b,bc,d,b],[]⟩⟩] (.n .no (.n (.n (.sz 22 (.jn [1,9,10,12,20,21] [] [y,ak] .no .no) (.sz 13021 (.jn [1,9,10,12,19,20] [] [aa,al] .no .no) (.sz 2021 (.jn [1,8,9,11,19,20] [] [ab,am] .no .no) (.jn [1,8,9,11,18,19] [] [ac,an] .no .no)))) .no) .no))) (.lp [1,8,9,11,18,19] ⟨.normal,[12],⟨[a],[ae,d,b,be,d,b],[]⟩⟩ [ac,⟨(.exit 2),[],⟨[],[ae,d,b,be,d,b],[]⟩⟩] (.n .no (.n (.n (.sz 22 (.jn [1,9,10,12,20,21] [] [y,ak] .no .no) (.sz 13021 (.jn [1,9,10,12,19,20] [] [aa,al] .no .no) (.sz 2021 (.jn [1,8,9,11,19,20] [] [ab,am] .no .no) (.jn [1,8,9,11,18,19] [] [ac,an] .no .no)))) .no) .no)))))) .no)) .no)) (.sz 13021 (.n .no (.n (.n .no (.n (.sz 22 (.lp [1,9,10,12,20,21] ⟨.normal,[12],⟨[a],[ad,d,b,bf,d,b],[]⟩⟩ [y,⟨(.exit 2),[],⟨[],[ad,d,b,bf,d,b],[]⟩⟩] (.n .no (.n (.n (.sz 22 (.jn [1,9,10,12,20,21] [] [y,ak] .no .no) (.sz 13021 (.jn [1,9,10,12,19,20] [] [aa,al] .no .no) (.sz 2021 (.jn [1,8,9,11,19,20] [] [ab,am] .no .no) (.jn [1,8,9,11,18,19] [] [ac,an] .no .no)))) .no) .no))) (.sz 13021 (.lp [1,9,10,12,19,20] ⟨.normal,[12],⟨[a],[ad,d,b,bd,d,b],[]⟩⟩ [aa,⟨(.exit 2),[],⟨[],[ad,d,b,bd,d,b],[]⟩⟩] (.n .no (.n (.n (.sz 22 (.jn [1,9,10,12,20,21] [] [y,ak] .no .no) (.sz 13021 (.jn [1,9,10,12,19,20] [] [aa,al] .no .no) (.sz 2021 (.jn [1,8,9,11,19,20] [] [ab,am] .no .no) (.jn [1,8,9,11,18,19] [] [ac,an] .no .no)))) .no) .no))) (.sz 2021 (.lp [1,8,9,11,19,20] ⟨.normal,[12],⟨[a],[ae,d,b,bc,d,b],[]⟩⟩ [ab,⟨(.exit 2),[],⟨[],[ae,d,b,bc,d,b],[]⟩⟩] (.n .no (.n (.n (.sz 22 (.jn [1,9,10,12,20,21] [] [y,ak] .no .no) (.sz 13021 (.jn [1,9,10,12,19,20] [] [aa,al] .no .no) (.sz 2021 (.jn [1,8,9,11,19,20] [] [ab,am] .no .no) (.jn [1,8,9,11,18,19] [] [ac,an] .no .no)))) .no) .no))) (.lp [1,8,9,11,18,19] ⟨.normal,[12],⟨[a],[ae,d,b,be,d,b],[]⟩⟩ [ac,⟨(.exit 2),[],⟨[],[ae,d,b,be,d,b],[]⟩⟩] (.n .no (.n (.n (.sz 22 (.jn [1,9,10,12,20,21] [] [y,ak] .no .no) (.sz 13021 (.jn [1,9,10,12,19,20] [] [aa,al] .no .no) (.sz 2021 (.jn [1,8,9,11,19,20] [] [ab,am] .no .no) (.jn [1,8,9,11,18,19] [] [ac,an] .no .no)))) .no) .no)))))) .no)) .no)) (.sz 12 (.n .no (.n (.n .no (.n (.sz 22 (.lp [1,9,10,12,20,21] ⟨.normal,[12],⟨[a],[ad,d,b,bf,d,b],[]⟩⟩ [y,⟨(.exit 2),[],⟨[],[ad,d,b,bf,d,b],[]⟩⟩] (.n .no (.n (.n (.sz 22 (.jn [1,9,10,12,20,21] [] [y,ak] .no .no) (.sz 13021 (.jn [1,9,10,12,19,20] [] [aa,al] .no .no) (.sz 2021 (.jn [1,8,9,11,19,20] [] [ab,am] .no .no) (.jn [1,8,9,11,18,19] [] [ac,an] .no .no)))) .no) .no))) (.sz 13021 (.lp [1,9,10,12,19,20] ⟨.normal,[12],⟨[a],[ad,d,b,bd,d,b],[]⟩⟩ [aa,⟨(.exit 2),[],⟨[],[ad,d,b,bd,d,b],[]⟩⟩] (.n .no (.n (.n (.sz 22 (.jn [1,9,10,12,20,21] [] [y,ak] .no .no) (.sz 13021 (.jn [1,9,10,12,19,20] [] [aa,al] .no .no) (.sz 2021 (.jn [1,8,9,11,19,20] [] [ab,am] .no .no) (.jn [1,8,9,11,18,19] [] [ac,an] .no .no)))) .no) .no))) (.sz 2021 (.lp [1,8,9,11,19,20] ⟨.normal,[12],⟨[a],[ae,d,b,bc,d,b],[]⟩⟩ [ab,⟨(.exit 2),[],⟨[],[ae,d,b,bc,d,b],[]⟩⟩] (.n .no (.n (.n (.sz 22 (.jn [1,9,10,12,20,21] [] [y,ak] .no .no) (.sz 13021 (.jn [1,9,10,12,19,20] [] [aa,al] .no .no) (.sz 2021 (.jn [1,8,9,11,19,20] [] [ab,am] .no .no) (.jn [1,8,9,11,18,19] [] [ac,an] .no .no)))) .no) .no))) (.lp [1,8,9,11,18,19] ⟨.normal,[12],⟨[a],[ae,d,b,be,d,b],[]⟩⟩ [ac,⟨(.exit 2),[],⟨[],[ae,d,b,be,d,b],[]⟩⟩] (.n .no (.n (.n (.sz 22 (.jn [1,9,10,12,20,21] [] [y,ak] .no .no) (.sz 13021 (.jn [1,9,10,12,19,20] [] [aa,al] .no .no) (.sz 2021 (.jn [1,8,9,11,19,20] [] [ab,am] .no .no) (.jn [1,8,9,11,18,19] [] [ac,an] .no .no)))) .no) .no)))))) .no)) .no)) (.sz 2021 (.n .no (.n (.n .no (.n (.sz 22 (.lp [1,9,10,12,20,21] ⟨.normal,[12],⟨[a],[ad,d,b,bf,d,b],[]⟩⟩ [y,⟨(.exit 2),[],⟨[],[ad,d,b,bf,d,b],[]⟩⟩] (.n .no (.n (.n (.sz 22 (.jn [1,9,10,12,20,21] [] [y,ak] .no .no) (.sz 13021 (.jn [1,9,10,12,19,20] [] [aa,al] .no .no) (.sz 2021 (.jn [1,8,9,11,19,20] [] [ab,am] .no .no) (.jn [1,8,9,11,18,19] [] [ac,an] .no .no)))) .no) .no))) (.sz 13021 (.lp [1,9,10,12,19,20] ⟨.normal,[12],⟨[a],[ad,d,b,bd,d,b],[]⟩⟩ [aa,⟨(.exit 2),[],⟨[],[ad,d,b,bd,d,b],[]⟩⟩] (.n .no (.n (.n (.sz 22 (.jn [1,9,10,12,20,21] [] [y,ak] .no .no) (.sz 13021 (.jn [1,9,10,12,19,20] [] [aa,al] .no .no) (.sz 2021 (.jn [1,8,9,11,19,20] [] [ab,am] .no .no) (.jn [1,8,9,11,18,19] [] [ac,an] .no .no)))) .no) .no))) (.sz 2021 (.lp [1,8,9,11,19,20] ⟨.normal,[12],⟨[a],[ae,d,b,bc,d,b],[]⟩⟩ [ab,⟨(.exit 2),[],⟨[],[ae,d,b,bc,d,b],[]⟩⟩] (.n .no (.n (.n (.sz 22 (.jn [1,9,10,12,20,21] [] [y,ak] .no .no) (.sz 13021 (.jn [1,9,10,12,19,20] [] [aa,al] .no .no) (.sz 2021 (.jn [1,8,9,11,19,20] [] [ab,am] .no .no) (.jn [1,8,9,11,18,19] [] [ac,an] .no .no)))) .no) .no))) (.lp [1,8,9,11,18,19] ⟨.normal,[12],⟨[a],[ae,d,b,be,d,b],[]⟩⟩ [ac,⟨(.exit 2),[],⟨[],[ae,d,b,be,d,b],[]⟩⟩] (.n .no (.n (.n (.sz 22 (.jn [1,9,10,12,20,21] [] [y,ak] .no .no) (.sz 13021 (.jn [1,9,10,12,19,20] [] [aa,al] .no .no) (.sz 2021 (.jn [1,8,9,11,19,20] [] [ab,am] .no .no) (.jn [1,8,9,11,18,19] [] [ac,an] .no .no)))) .no) .no)))))) .no)) .no)) (.sz 14020 (.n .no (.n (.n .no (.n (.sz 22 (.lp [1,9,10,12,20,21] ⟨.normal,[12],⟨[a],[ad,d,b,bf,d,b],[]⟩⟩ [y,⟨(.exit 2),[],⟨[],[ad,d,b,bf,d,b],[]⟩⟩] (.n .no (.n (.n (.sz 22 (.jn [1,9,10,12,20,21] [] [y,ak] .no .no) (.sz 13021 (.jn [1,9,10,12,19,20] [] [aa,al] .no .no) (.sz 2021 (.jn [1,8,9,11,19,20] [] [ab,am] .no .no) (.jn [1,8,9,11,18,19] [] [ac,an] .no .no)))) .no) .no))) (.sz 13021 (.lp [1,9,10,12,19,20] ⟨.normal,[12],⟨[a],[ad,d,b,bd,d,b],[]⟩⟩ [aa,⟨(.exit 2),[],⟨[],[ad,d,b,bd,d,b],[]⟩⟩] (.n .no (.n (.n (.sz 22 (.jn [1,9,10,12,20,21] [] [y,ak] .no .no) (.sz 13021 (.jn [1,9,10,12,19,20] [] [aa,al] .no .no) (.sz 2021 (.jn [1,8,9,11,19,20] [] [ab,am] .no .no) (.jn [1,8,9,11,18,19] [] [ac,an] .no .no)))) .no) .no))) (.sz 2021 (.lp [1,8,9,11,19,20] ⟨.normal,[12],⟨[a],[ae,d,b,bc,d,b],[]⟩⟩ [ab,⟨(.exit 2),[],⟨[],[ae,d,b,bc,d,b],[]⟩⟩] (.n .no (.n (.n (.sz 22 (.jn [1,9,10,12,20,21] [] [y,ak] .no .no) (.sz 13021 (.jn [1,9,10,12,19,20] [] [aa,al] .no .no) (.sz 2021 (.jn [1,8,9,11,19,20] [] [ab,am] .no .no) (.jn [1,8,9,11,18,19] [] [ac,an] .no .no)))) .no) .no))) (.lp [1,8,9,11,18,19] ⟨.normal,[12],⟨[a],[ae,d,b,be,d,b],[]⟩⟩ [ac,⟨(.exit 2),[],⟨[],[ae,d,b,be,d,b],[]⟩⟩] (.n .no (.n (.n (.sz 22 (.jn [1,9,10,12,20,21] [] [y,ak] .no .no) (.sz 13021 (.jn [1,9,10,12,19,20] [] [aa,al] .no .no) (.sz 2021 (.jn [1,8,9,11,19,20] [] [ab,am] .no .no) (.jn [1,8,9,11,18,19] [] [ac,an] .no .no)))) .no) .no)))))) .no)) .no)) (.n .no (.n (.n .no (.n (.sz 22 (.lp [1,9,10,12,20,21] ⟨.normal,[12],⟨[a],[ad,d,b,bf,d,b],[]⟩⟩ [y,⟨(.exit 2),[],⟨[],[ad,d,b,bf,d,b],[]⟩⟩] (.n .no (.n (.n (.sz 22 (.jn [1,9,10,12,20,21] [] [y,ak] .no .no) (.sz 13021 (.jn [1,9,10,12,19,20] [] [aa,al] .no .no) (.sz 2021 (.jn [1,8,9,11,19,20] [] [ab,am] .no .no) (.jn [1,8,9,11,18,19] [] [ac,an] .no .no)))) .no) .no))) (.sz 13021 (.lp [1,9,10,12,19,20] ⟨.normal,[12],⟨[a],[ad,d,b,bd,d,b],[]⟩⟩ [aa,⟨(.exit 2),[],⟨[],[ad,d,b,bd,d,b],[]⟩⟩] (.n .no (.n (.n (.sz 22 (.jn [1,9,10,12,20,21] [] [y,ak] .no .no) (.sz 13021 (.jn [1,9,10,12,19,20] [] [aa,al] .no .no) (.sz 2021 (.jn [1,8,9,11,19,20] [] [ab,am] .no .no) (.jn [1,8,9,11,18,19] [] [ac,an] .no .no)))) .no) .no))) (.sz 2021 (.lp [1,8,9,11,19,20] ⟨.normal,[12],⟨[a],[ae,d,b,bc,d,b],[]⟩⟩ [ab,⟨(.exit 2),[],⟨[],[ae,d,b,bc,d,b],[]⟩⟩] (.n .no (.n (.n (.sz 22 (.jn [1,9,10,12,20,21] [] [y,ak] .no .no) (.sz 13021 (.jn [1,9,10,12,19,20] [] [aa,al] .no .no) (.sz 2021 (.jn [1,8,9,11,19,20] [] [ab,am] .no .no) (.jn [1,8,9,11,18,19] [] [ac,an] .no .no)))) .no) .no))) (.lp [1,8,9,11,18,19] ⟨.normal,[12],⟨[a],[ae,d,b,be,d,b],[]⟩⟩ [ac,⟨(.exit 2),[],⟨[],[ae,d,b,be,d,b],[]⟩⟩] (.n .no (.n (.n (.sz 22 (.jn [1,9,10,12,20,21] [] [y,ak] .no .no) (.sz 13021 (.jn [1,9,10,12,19,20] [] [aa,al] .no .no) (.sz 2021 (.jn [1,8,9,11,19,20] [] [ab,am] .no .no) (.jn [1,8,9,11,18,19] [] [ac,an] .no .no)))) .no) .no)))))) .no)) .no))))))))))))))) (.cons bc6 (.cons bm4 (.cons aK5 (.cons au7 (.cons ya (.cons ak7 (.cons zX (.cons bc4 (.cons ui (.cons vZ (.cons bn1 (.cons ak8 (.cons bm5 (.cons aB7 (.cons ah1 (.cons vY (.cons sQ (.cons yx (.cons uj (.cons zY (.cons zW (.nil _)))))))))))))))))))))) (fun _=>by kernel_rfl)
end Go.V
