/- A part of the proofs of this claim: what functions of the program answer on an abstract machine, and plain laws. No condition. -/
import Derived.Test.YtbocegmeciaanaaGreatD2
import Derived.Test.YtbocegmeciaanaaGreatRows
import Derived.KernelRfl
set_option linter.unusedVariables false
set_option linter.unusedSimpArgs false
set_option linter.unusedSectionVars false
namespace Go.V
open Go.Ab Go.Proofs
section
open Tryz renaming prog → aB
abbrev u2 {a b c:Type}(f:a→b→c)(t:a×b):c:=f t.1 t.2
abbrev u3 {x0 x1 x2 x3:Type}(f:x0→x1→x2→x3)(t:x0×x1×x2):x3:=u2 (f t.1) t.2
abbrev u4 {x0 x1 x2 x3 x4:Type}(f:x0→x1→x2→x3→x4)(t:x0×x1×x2×x3):x4:=u3 (f t.1) t.2
abbrev u5 {x0 x1 x2 x3 x4 x5:Type}(f:x0→x1→x2→x3→x4→x5)(t:x0×x1×x2×x3×x4):x5:=u4 (f t.1) t.2
abbrev u6 {x0 x1 x2 x3 x4 x5 x6:Type}(f:x0→x1→x2→x3→x4→x5→x6)(t:x0×x1×x2×x3×x4×x5):x6:=u5 (f t.1) t.2
abbrev u7 {x0 x1 x2 x3 x4 x5 x6 x7:Type}(f:x0→x1→x2→x3→x4→x5→x6→x7)(t:x0×x1×x2×x3×x4×x5×x6):x7:=u6 (f t.1) t.2
abbrev u8 {x0 x1 x2 x3 x4 x5 x6 x7 x8:Type}(f:x0→x1→x2→x3→x4→x5→x6→x7→x8)(t:x0×x1×x2×x3×x4×x5×x6×x7):x8:=u7 (f t.1) t.2
abbrev u9 {x0 x1 x2 x3 x4 x5 x6 x7 x8 x9:Type}(f:x0→x1→x2→x3→x4→x5→x6→x7→x8→x9)(t:x0×x1×x2×x3×x4×x5×x6×x7×x8):x9:=u8 (f t.1) t.2
abbrev u10 {x0 x1 x2 x3 x4 x5 x6 x7 x8 x9 x10:Type}(f:x0→x1→x2→x3→x4→x5→x6→x7→x8→x9→x10)(t:x0×x1×x2×x3×x4×x5×x6×x7×x8×x9):x10:=u9 (f t.1) t.2
abbrev u11 {x0 x1 x2 x3 x4 x5 x6 x7 x8 x9 x10 x11:Type}(f:x0→x1→x2→x3→x4→x5→x6→x7→x8→x9→x10→x11)(t:x0×x1×x2×x3×x4×x5×x6×x7×x8×x9×x10):x11:=u10 (f t.1) t.2
abbrev u12 {x0 x1 x2 x3 x4 x5 x6 x7 x8 x9 x10 x11 x12:Type}(f:x0→x1→x2→x3→x4→x5→x6→x7→x8→x9→x10→x11→x12)(t:x0×x1×x2×x3×x4×x5×x6×x7×x8×x9×x10×x11):x12:=u11 (f t.1) t.2
abbrev u13 {x0 x1 x2 x3 x4 x5 x6 x7 x8 x9 x10 x11 x12 x13:Type}(f:x0→x1→x2→x3→x4→x5→x6→x7→x8→x9→x10→x11→x12→x13)(t:x0×x1×x2×x3×x4×x5×x6×x7×x8×x9×x10×x11×x12):x13:=u12 (f t.1) t.2
abbrev u14 {x0 x1 x2 x3 x4 x5 x6 x7 x8 x9 x10 x11 x12 x13 x14:Type}(f:x0→x1→x2→x3→x4→x5→x6→x7→x8→x9→x10→x11→x12→x13→x14)(t:x0×x1×x2×x3×x4×x5×x6×x7×x8×x9×x10×x11×x12×x13):x14:=u13 (f t.1) t.2
abbrev u15 {x0 x1 x2 x3 x4 x5 x6 x7 x8 x9 x10 x11 x12 x13 x14 x15:Type}(f:x0→x1→x2→x3→x4→x5→x6→x7→x8→x9→x10→x11→x12→x13→x14→x15)(t:x0×x1×x2×x3×x4×x5×x6×x7×x8×x9×x10×x11×x12×x13×x14):x15:=u14 (f t.1) t.2
abbrev u16 {x0 x1 x2 x3 x4 x5 x6 x7 x8 x9 x10 x11 x12 x13 x14 x15 x16:Type}(f:x0→x1→x2→x3→x4→x5→x6→x7→x8→x9→x10→x11→x12→x13→x14→x15→x16)(t:x0×x1×x2×x3×x4×x5×x6×x7×x8×x9×x10×x11×x12×x13×x14×x15):x16:=u15 (f t.1) t.2
abbrev u17 {x0 x1 x2 x3 x4 x5 x6 x7 x8 x9 x10 x11 x12 x13 x14 x15 x16 x17:Type}(f:x0→x1→x2→x3→x4→x5→x6→x7→x8→x9→x10→x11→x12→x13→x14→x15→x16→x17)(t:x0×x1×x2×x3×x4×x5×x6×x7×x8×x9×x10×x11×x12×x13×x14×x15×x16):x17:=u16 (f t.1) t.2
abbrev u18 {x0 x1 x2 x3 x4 x5 x6 x7 x8 x9 x10 x11 x12 x13 x14 x15 x16 x17 x18:Type}(f:x0→x1→x2→x3→x4→x5→x6→x7→x8→x9→x10→x11→x12→x13→x14→x15→x16→x17→x18)(t:x0×x1×x2×x3×x4×x5×x6×x7×x8×x9×x10×x11×x12×x13×x14×x15×x16×x17):x18:=u17 (f t.1) t.2
abbrev u19 {x0 x1 x2 x3 x4 x5 x6 x7 x8 x9 x10 x11 x12 x13 x14 x15 x16 x17 x18 x19:Type}(f:x0→x1→x2→x3→x4→x5→x6→x7→x8→x9→x10→x11→x12→x13→x14→x15→x16→x17→x18→x19)(t:x0×x1×x2×x3×x4×x5×x6×x7×x8×x9×x10×x11×x12×x13×x14×x15×x16×x17×x18):x19:=u18 (f t.1) t.2
abbrev u20 {x0 x1 x2 x3 x4 x5 x6 x7 x8 x9 x10 x11 x12 x13 x14 x15 x16 x17 x18 x19 x20:Type}(f:x0→x1→x2→x3→x4→x5→x6→x7→x8→x9→x10→x11→x12→x13→x14→x15→x16→x17→x18→x19→x20)(t:x0×x1×x2×x3×x4×x5×x6×x7×x8×x9×x10×x11×x12×x13×x14×x15×x16×x17×x18×x19):x20:=u19 (f t.1) t.2
abbrev u21 {x0 x1 x2 x3 x4 x5 x6 x7 x8 x9 x10 x11 x12 x13 x14 x15 x16 x17 x18 x19 x20 x21:Type}(f:x0→x1→x2→x3→x4→x5→x6→x7→x8→x9→x10→x11→x12→x13→x14→x15→x16→x17→x18→x19→x20→x21)(t:x0×x1×x2×x3×x4×x5×x6×x7×x8×x9×x10×x11×x12×x13×x14×x15×x16×x17×x18×x19×x20):x21:=u20 (f t.1) t.2
abbrev u22 {x0 x1 x2 x3 x4 x5 x6 x7 x8 x9 x10 x11 x12 x13 x14 x15 x16 x17 x18 x19 x20 x21 x22:Type}(f:x0→x1→x2→x3→x4→x5→x6→x7→x8→x9→x10→x11→x12→x13→x14→x15→x16→x17→x18→x19→x20→x21→x22)(t:x0×x1×x2×x3×x4×x5×x6×x7×x8×x9×x10×x11×x12×x13×x14×x15×x16×x17×x18×x19×x20×x21):x22:=u21 (f t.1) t.2
abbrev u23 {x0 x1 x2 x3 x4 x5 x6 x7 x8 x9 x10 x11 x12 x13 x14 x15 x16 x17 x18 x19 x20 x21 x22 x23:Type}(f:x0→x1→x2→x3→x4→x5→x6→x7→x8→x9→x10→x11→x12→x13→x14→x15→x16→x17→x18→x19→x20→x21→x22→x23)(t:x0×x1×x2×x3×x4×x5×x6×x7×x8×x9×x10×x11×x12×x13×x14×x15×x16×x17×x18×x19×x20×x21×x22):x23:=u22 (f t.1) t.2
abbrev u24 {x0 x1 x2 x3 x4 x5 x6 x7 x8 x9 x10 x11 x12 x13 x14 x15 x16 x17 x18 x19 x20 x21 x22 x23 x24:Type}(f:x0→x1→x2→x3→x4→x5→x6→x7→x8→x9→x10→x11→x12→x13→x14→x15→x16→x17→x18→x19→x20→x21→x22→x23→x24)(t:x0×x1×x2×x3×x4×x5×x6×x7×x8×x9×x10×x11×x12×x13×x14×x15×x16×x17×x18×x19×x20×x21×x22×x23):x24:=u23 (f t.1) t.2
abbrev u25 {x0 x1 x2 x3 x4 x5 x6 x7 x8 x9 x10 x11 x12 x13 x14 x15 x16 x17 x18 x19 x20 x21 x22 x23 x24 x25:Type}(f:x0→x1→x2→x3→x4→x5→x6→x7→x8→x9→x10→x11→x12→x13→x14→x15→x16→x17→x18→x19→x20→x21→x22→x23→x24→x25)(t:x0×x1×x2×x3×x4×x5×x6×x7×x8×x9×x10×x11×x12×x13×x14×x15×x16×x17×x18×x19×x20×x21×x22×x23×x24):x25:=u24 (f t.1) t.2
abbrev u26 {x0 x1 x2 x3 x4 x5 x6 x7 x8 x9 x10 x11 x12 x13 x14 x15 x16 x17 x18 x19 x20 x21 x22 x23 x24 x25 x26:Type}(f:x0→x1→x2→x3→x4→x5→x6→x7→x8→x9→x10→x11→x12→x13→x14→x15→x16→x17→x18→x19→x20→x21→x22→x23→x24→x25→x26)(t:x0×x1×x2×x3×x4×x5×x6×x7×x8×x9×x10×x11×x12×x13×x14×x15×x16×x17×x18×x19×x20×x21×x22×x23×x24×x25):x26:=u25 (f t.1) t.2
abbrev u27 {x0 x1 x2 x3 x4 x5 x6 x7 x8 x9 x10 x11 x12 x13 x14 x15 x16 x17 x18 x19 x20 x21 x22 x23 x24 x25 x26 x27:Type}(f:x0→x1→x2→x3→x4→x5→x6→x7→x8→x9→x10→x11→x12→x13→x14→x15→x16→x17→x18→x19→x20→x21→x22→x23→x24→x25→x26→x27)(t:x0×x1×x2×x3×x4×x5×x6×x7×x8×x9×x10×x11×x12×x13×x14×x15×x16×x17×x18×x19×x20×x21×x22×x23×x24×x25×x26):x27:=u26 (f t.1) t.2
abbrev u28 {x0 x1 x2 x3 x4 x5 x6 x7 x8 x9 x10 x11 x12 x13 x14 x15 x16 x17 x18 x19 x20 x21 x22 x23 x24 x25 x26 x27 x28:Type}(f:x0→x1→x2→x3→x4→x5→x6→x7→x8→x9→x10→x11→x12→x13→x14→x15→x16→x17→x18→x19→x20→x21→x22→x23→x24→x25→x26→x27→x28)(t:x0×x1×x2×x3×x4×x5×x6×x7×x8×x9×x10×x11×x12×x13×x14×x15×x16×x17×x18×x19×x20×x21×x22×x23×x24×x25×x26×x27):x28:=u27 (f t.1) t.2
abbrev u29 {x0 x1 x2 x3 x4 x5 x6 x7 x8 x9 x10 x11 x12 x13 x14 x15 x16 x17 x18 x19 x20 x21 x22 x23 x24 x25 x26 x27 x28 x29:Type}(f:x0→x1→x2→x3→x4→x5→x6→x7→x8→x9→x10→x11→x12→x13→x14→x15→x16→x17→x18→x19→x20→x21→x22→x23→x24→x25→x26→x27→x28→x29)(t:x0×x1×x2×x3×x4×x5×x6×x7×x8×x9×x10×x11×x12×x13×x14×x15×x16×x17×x18×x19×x20×x21×x22×x23×x24×x25×x26×x27×x28):x29:=u28 (f t.1) t.2
abbrev u30 {x0 x1 x2 x3 x4 x5 x6 x7 x8 x9 x10 x11 x12 x13 x14 x15 x16 x17 x18 x19 x20 x21 x22 x23 x24 x25 x26 x27 x28 x29 x30:Type}(f:x0→x1→x2→x3→x4→x5→x6→x7→x8→x9→x10→x11→x12→x13→x14→x15→x16→x17→x18→x19→x20→x21→x22→x23→x24→x25→x26→x27→x28→x29→x30)(t:x0×x1×x2×x3×x4×x5×x6×x7×x8×x9×x10×x11×x12×x13×x14×x15×x16×x17×x18×x19×x20×x21×x22×x23×x24×x25×x26×x27×x28×x29):x30:=u29 (f t.1) t.2
abbrev u31 {x0 x1 x2 x3 x4 x5 x6 x7 x8 x9 x10 x11 x12 x13 x14 x15 x16 x17 x18 x19 x20 x21 x22 x23 x24 x25 x26 x27 x28 x29 x30 x31:Type}(f:x0→x1→x2→x3→x4→x5→x6→x7→x8→x9→x10→x11→x12→x13→x14→x15→x16→x17→x18→x19→x20→x21→x22→x23→x24→x25→x26→x27→x28→x29→x30→x31)(t:x0×x1×x2×x3×x4×x5×x6×x7×x8×x9×x10×x11×x12×x13×x14×x15×x16×x17×x18×x19×x20×x21×x22×x23×x24×x25×x26×x27×x28×x29×x30):x31:=u30 (f t.1) t.2
abbrev u32 {x0 x1 x2 x3 x4 x5 x6 x7 x8 x9 x10 x11 x12 x13 x14 x15 x16 x17 x18 x19 x20 x21 x22 x23 x24 x25 x26 x27 x28 x29 x30 x31 x32:Type}(f:x0→x1→x2→x3→x4→x5→x6→x7→x8→x9→x10→x11→x12→x13→x14→x15→x16→x17→x18→x19→x20→x21→x22→x23→x24→x25→x26→x27→x28→x29→x30→x31→x32)(t:x0×x1×x2×x3×x4×x5×x6×x7×x8×x9×x10×x11×x12×x13×x14×x15×x16×x17×x18×x19×x20×x21×x22×x23×x24×x25×x26×x27×x28×x29×x30×x31):x32:=u31 (f t.1) t.2
abbrev u33 {x0 x1 x2 x3 x4 x5 x6 x7 x8 x9 x10 x11 x12 x13 x14 x15 x16 x17 x18 x19 x20 x21 x22 x23 x24 x25 x26 x27 x28 x29 x30 x31 x32 x33:Type}(f:x0→x1→x2→x3→x4→x5→x6→x7→x8→x9→x10→x11→x12→x13→x14→x15→x16→x17→x18→x19→x20→x21→x22→x23→x24→x25→x26→x27→x28→x29→x30→x31→x32→x33)(t:x0×x1×x2×x3×x4×x5×x6×x7×x8×x9×x10×x11×x12×x13×x14×x15×x16×x17×x18×x19×x20×x21×x22×x23×x24×x25×x26×x27×x28×x29×x30×x31×x32):x33:=u32 (f t.1) t.2
abbrev u34 {x0 x1 x2 x3 x4 x5 x6 x7 x8 x9 x10 x11 x12 x13 x14 x15 x16 x17 x18 x19 x20 x21 x22 x23 x24 x25 x26 x27 x28 x29 x30 x31 x32 x33 x34:Type}(f:x0→x1→x2→x3→x4→x5→x6→x7→x8→x9→x10→x11→x12→x13→x14→x15→x16→x17→x18→x19→x20→x21→x22→x23→x24→x25→x26→x27→x28→x29→x30→x31→x32→x33→x34)(t:x0×x1×x2×x3×x4×x5×x6×x7×x8×x9×x10×x11×x12×x13×x14×x15×x16×x17×x18×x19×x20×x21×x22×x23×x24×x25×x26×x27×x28×x29×x30×x31×x32×x33):x34:=u33 (f t.1) t.2
abbrev u35 {x0 x1 x2 x3 x4 x5 x6 x7 x8 x9 x10 x11 x12 x13 x14 x15 x16 x17 x18 x19 x20 x21 x22 x23 x24 x25 x26 x27 x28 x29 x30 x31 x32 x33 x34 x35:Type}(f:x0→x1→x2→x3→x4→x5→x6→x7→x8→x9→x10→x11→x12→x13→x14→x15→x16→x17→x18→x19→x20→x21→x22→x23→x24→x25→x26→x27→x28→x29→x30→x31→x32→x33→x34→x35)(t:x0×x1×x2×x3×x4×x5×x6×x7×x8×x9×x10×x11×x12×x13×x14×x15×x16×x17×x18×x19×x20×x21×x22×x23×x24×x25×x26×x27×x28×x29×x30×x31×x32×x33×x34):x35:=u34 (f t.1) t.2
abbrev u36 {x0 x1 x2 x3 x4 x5 x6 x7 x8 x9 x10 x11 x12 x13 x14 x15 x16 x17 x18 x19 x20 x21 x22 x23 x24 x25 x26 x27 x28 x29 x30 x31 x32 x33 x34 x35 x36:Type}(f:x0→x1→x2→x3→x4→x5→x6→x7→x8→x9→x10→x11→x12→x13→x14→x15→x16→x17→x18→x19→x20→x21→x22→x23→x24→x25→x26→x27→x28→x29→x30→x31→x32→x33→x34→x35→x36)(t:x0×x1×x2×x3×x4×x5×x6×x7×x8×x9×x10×x11×x12×x13×x14×x15×x16×x17×x18×x19×x20×x21×x22×x23×x24×x25×x26×x27×x28×x29×x30×x31×x32×x33×x34×x35):x36:=u35 (f t.1) t.2
abbrev Rt :=vi aB
theorem rq {P:Program}{f:FuncId}{tab:List FSum}{vals:List Sk}{objs:List OSk}{outs:List Alt}{run:Tup (wY.shs ⟨vals,[],objs⟩)→Option (ug outs)}(at':AT)(ht:ke P tab)(he: ∀t,be4 P f ⟨tab,[]⟩ vals objs outs at' t=run t):vi P ⟨f,vals,objs,outs,run⟩:=cB7 ht he
abbrev NS :Sk:= .nils
set_option maxRecDepth 100000
abbrev r :Sh:=(.int .i64)
abbrev aq :Sh:=(.int .u64)
abbrev ay :Sh:=(.list aq)
abbrev aw :Sh:=(.list ay)
abbrev bg :Sh:=(.pair r aq)
abbrev ar :Sh:=(.pair r ay)
abbrev ak :Sh:=(.list ar)
abbrev bh :Sh:=(.pair r bg)
abbrev bi :Sh:=(.pair r (.pair aq r))
abbrev bj :Sh:=(.pair r bh)
abbrev be :Sh:=(.pair r bi)
abbrev ae :Sh:=(.pair r bj)
abbrev bf :Sh:=(.pair r be)
abbrev bd :Sh:=(.list ae)
abbrev ao :Sh:=(.pair r bf)
abbrev k :Sk:=(.full 1)
abbrev d :Sk:=(.ptr 0 0)
abbrev af :Sk:=(.ptr 6 0)
abbrev a :Sk:=(.leaf r)
abbrev j :Sk:=(.leaf ay)
abbrev h :Sk:=(.leaf aq)
abbrev o :Sk:=(.leaf bd)
abbrev p :Sk:=(.leaf .bool)
abbrev i :Sk:=(.cint .i64 0)
abbrev y :Sk:=(.agg [a,o])
abbrev am :Sk:=(.agg [a,a,a,a,h])
abbrev ac :Sk:=(.agg [a,j,j,a,o,a,o,a,a])
abbrev az :Sk:=(.agg [h,h,h,h,h,h,h,h,h,h,h,h,h,h,h,h])
abbrev an :Sk:=(.agg [a,j,j,a,o,a,o,a,a,a,o,a,o,a,j,a,a,a,a,a,a,a,j,(.leaf ak),a,(.leaf aw),j,j,h,a,a,a,a,a])
abbrev bc :Sk:=(.tup [an,a])
abbrev c :OSk:=(.arr true aq)
abbrev m :OSk:=(.arr true r)
abbrev l :OSk:=(.arr false r)
abbrev b :OSk:=(.arr false aq)
abbrev g :OSk:=(.arr true ae)
abbrev aa :OSk:=(.cells 1 true [(.full 8),a])
abbrev ad :OSk:=(.cells 1 true [(.full 9),a])
abbrev v :OSk:=(.cells 1 true [a,a,a])
abbrev w :OSk:=(.cells 1 false [a,a,a])
abbrev ab :OSk:=(.cells 1 true [a,a,a,af])
abbrev al :OSk:=(.cells 1 false [a,a,a,a,k])
abbrev au :OSk:=(.cells 1 false [h,h,h,h,h,h,h,h])
abbrev ap :OSk:=(.cells 1 false [a,a,a,a,a,a,a,a])
abbrev ax :OSk:=(.cells 1 false [h,h,h,h,h,h,h,h,h,h,h,h,h,h,h,h])
abbrev ba :OSk:=(.cells 1 true [a,a,a,a,a,k,(.full 2),a,(.full 3),a,(.full 4),a,a,(.full 5), .nilp, .nilp, .nilp,a,a,a,a,a,a,a,h])
abbrev ai :OSk:=(.cells 1 true [a,a,a,a,a,k,(.full 2),a,(.full 3),a,(.full 4),a,a,(.full 5),af, .nilp,(.ptr 7 0),a,a,a,a,a,a,a,h])
abbrev ah :OSk:=(.cells 1 false [a,a,a,a,a,k,(.full 2),a,(.full 3),a,(.full 4),a,a,(.full 5),af, .nilp,(.ptr 7 0),a,a,a,a,a,a,a,h])
abbrev aj :OSk:=(.cells 1 true [a,a,a,a,a,k,(.full 2),a,(.full 3),a,(.full 4),a,a,(.full 5),af,(.ptr 7 0),(.ptr 8 0),a,a,a,a,a,a,a,h])
abbrev ag :OSk:=(.cells 1 false [a,a,a,a,a,k,(.full 2),a,(.full 3),a,(.full 4),a,a,(.full 5),af,(.ptr 7 0),(.ptr 8 0),a,a,a,a,a,a,a,h])
abbrev av :OSk:=(.cells 1 false [a,j,j,a,o,a,o,a,a,a,o,a,o,a,j,a,a,a,a,a,a,a,j,(.leaf ak),a,(.leaf aw),j,j,h,a,a,a,a,a])
abbrev bb :OSk:=(.cells 1 false [i,NS,NS,i,NS,i,NS,i,i,i,NS,i,NS,i,NS,i,i,i,i,i,i,i,NS,NS,i,NS,NS,NS,(.cint .u64 0),i,i,i,i,i])
abbrev x :Alt:=⟨.ret,[],⟨[p],[],[]⟩⟩
abbrev q :Alt:=⟨.ret,[],⟨[a],[],[]⟩⟩
def bl7 :FSum:=⟨55,[ac,a],[],[x],by exact u10 yq⟩
theorem bo0 :Rt bl7:=rq (.no) (.nil _) fun _=>by kernel_rfl
def bx7 :FSum:=⟨249,[o],[],[x],po⟩
theorem ad6 :Rt bx7:=rq ((.n .no (.n .no (.n (.n .no (.n (.lp [] ⟨.normal,[4,3],⟨[a,a],[],[]⟩⟩ [⟨.ret,[2],⟨[p],[],[]⟩⟩,⟨(.exit 0),[3],⟨[a],[],[]⟩⟩] (.n .no (.n (.n (.n .no (.jn [] [] [⟨.normal,[3],⟨[a],[],[]⟩⟩] .no .no)) .no) .no))) .no)) .no)))) (.nil _) fun _=>by kernel_rfl
def bx5 :FSum:=⟨250,[a],[],[⟨.ret,[],⟨[(.agg [p,p,p,p])],[],[]⟩⟩],ir⟩
theorem sq :Rt bx5:=rq ((.n .no (.jn [0] [] [⟨.ret,[],⟨[],[(.cells 1 false [p,p,p,p])],[]⟩⟩,⟨.normal,[],⟨[],[(.cells 1 false [p,p,p,p])],[]⟩⟩] .no .no))) (.nil _) fun _=>by kernel_rfl
def bm2 :FSum:=⟨323,[am],[],[x],by exact u5 tx⟩
theorem bo3 :Rt bm2:=rq ((.n .no (.n .no (.n .no (.n .no (.n (.n .no (.n (.lp [] ⟨.normal,[5],⟨[a],[],[]⟩⟩ [⟨.ret,[2],⟨[p],[],[]⟩⟩,⟨(.exit 0),[],⟨[],[],[]⟩⟩] .no) .no)) .no)))))) (.cons sq (.nil _)) fun _=>by kernel_rfl
def by1 :FSum:=⟨283,[y],[],[x],by exact u2 vw⟩
theorem bB9 :Rt by1:=rq ((.n .no (.n .no (.n (.n .no (.n (.lp [] ⟨.normal,[3],⟨[a],[],[]⟩⟩ [⟨.ret,[2],⟨[p],[],[]⟩⟩,⟨(.exit 0),[],⟨[],[],[]⟩⟩] .no) .no)) .no)))) (.cons ad6 (.cons bo3 (.nil _))) fun _=>by kernel_rfl
def aE1 :FSum:=⟨284,[y],[],[x],by exact u2 oF⟩
theorem aE8 :Rt aE1:=rq ((.n .no (.n .no (.n (.n .no (.n (.lp [] ⟨.normal,[3],⟨[a],[],[]⟩⟩ [⟨.ret,[2],⟨[p],[],[]⟩⟩,⟨(.exit 0),[],⟨[],[],[]⟩⟩] .no) .no)) .no)))) (.cons sq (.nil _)) fun _=>by kernel_rfl
def aZ8 :FSum:=⟨324,[o,a],[],[q],by exact u2 rW⟩
theorem bb5 :Rt aZ8:=rq ((.n .no (.n .no (.n (.n .no (.n (.lp [] ⟨.normal,[6,5],⟨[a,a],[],[]⟩⟩ [⟨(.exit 0),[5],⟨[a],[],[]⟩⟩] .no) .no)) .no)))) (.nil _) fun _=>by kernel_rfl
def bx6 :FSum:=⟨285,[o],[],[⟨.ret,[],⟨[(.tup [a,a])],[],[]⟩⟩],vt⟩
theorem bB6 :Rt bx6:=rq ((.n .no (.n .no (.n .no (.n (.n .no (.n (.lp [] ⟨.normal,[5,4],⟨[a,a],[],[]⟩⟩ [⟨(.exit 0),[4],⟨[a],[],[]⟩⟩] .no) .no)) .no))))) (.cons ad6 (.cons bb5 (.nil _))) fun _=>by kernel_rfl
def bm3 :FSum:=⟨195,[o],[],[⟨.ret,[],⟨[(.tup [(.full 0),a])],[],[l]⟩⟩],kc⟩
theorem tE :Rt bm3:=rq ((.n .no (.n .no (.n .no (.n (.n .no (.n (.lp [] ⟨.normal,[5,4],⟨[a,k],[],[l]⟩⟩ [⟨(.exit 0),[4],⟨[k],[],[l]⟩⟩] .no) .no)) (.n (.n .no (.n (.lp [1] ⟨.normal,[6],⟨[a],[l],[]⟩⟩ [⟨(.exit 2),[],⟨[],[l],[]⟩⟩] (.n .no (.n (.n (.n .no (.n .no (.n .no (.n (.n (.lp [] ⟨.normal,[7,8],⟨[a,a],[],[]⟩⟩ [⟨(.exit 4),[8],⟨[a],[],[]⟩⟩] .no) .no) .no)))) .no) .no))) .no)) .no)))))) (.cons ad6 (.nil _)) fun _=>by kernel_rfl
def aK6 (n:Nat):FSum:=⟨197,[o,(.leaf (.list r)),a,a],[],[q],fun t=>(co n).1 t.1 t.2.1 t.2.2.1 t.2.2.2⟩
def aV0 (n:Nat):FSum:=⟨196,[o,(.leaf (.list r)),a],[],[q],fun t=>(co n).2 t.1 t.2.1 t.2.2⟩
theorem nO : ∀n,vi aB (aK6 n)∧vi aB (aV0 n)
 |0=>⟨lC (fun t=>rfl),lC (fun t=>rfl)⟩
 |n+1=>⟨rq ((.n .no (.n .no (.n (.n .no (.n (.lp [] ⟨.normal,[10,9],⟨[a,a],[],[]⟩⟩ [⟨.ret,[8],⟨[(.cint .i64 65537)],[],[]⟩⟩,⟨(.exit 0),[9],⟨[a],[],[]⟩⟩] .no) .no)) .no)))) (.cons (nO n).2 (.cons sq (.nil _))) (fun _=>by kernel_rfl),rq (.no) (.cons (nO n).1 (.nil _)) (fun _=>by kernel_rfl)⟩
def ba0 :FSum:=⟨197,[o,(.leaf (.list r)),a,a],[],[q],by exact u4 mU⟩
theorem bb6 :Rt ba0:=(nO 400).1
def bm4 :FSum:=⟨196,[o,(.leaf (.list r)),a],[],[q],by exact u3 mw⟩
theorem ay1 :Rt bm4:=(nO 400).2
def aZ9 :FSum:=⟨124,[o],[],[⟨.ret,[],⟨[(.tup [a,a])],[],[]⟩⟩],lg⟩
theorem wP :Rt aZ9:=rq ((.n .no (.n .no (.n .no (.n (.n .no (.n (.lp [] ⟨.normal,[6],⟨[a],[],[]⟩⟩ [⟨.ret,[2,3],⟨[i,(.cint .i64 9)],[],[]⟩⟩,⟨(.exit 0),[],⟨[],[],[]⟩⟩] .no) .no)) .no))))) (.cons tE (.cons ay1 (.cons bb6 (.nil _)))) fun _=>by kernel_rfl
def bx9 :FSum:=⟨248,[y,a],[],[q],by exact u3 pt⟩
theorem aE7 :Rt bx9:=rq (.no) (.cons bB9 (.cons aE8 (.cons bB6 (.cons wP (.nil _))))) fun _=>by kernel_rfl
def by0 :FSum:=⟨193,[y,y],[],[q],by exact u4 vu⟩
theorem bB8 :Rt by0:=rq ((.n .no (.n (.n .no (.n (.lp [] ⟨.normal,[5],⟨[a],[],[]⟩⟩ [⟨.ret,[4],⟨[a],[],[]⟩⟩,⟨(.exit 0),[],⟨[],[],[]⟩⟩] .no) .no)) .no))) (.cons aE7 (.nil _)) fun _=>by kernel_rfl
def bx8 :FSum:=⟨194,[y,y,a,a],[],[q],by exact u6 pq⟩
theorem bB7 :Rt bx8:=rq (.no) (.nil _) fun _=>by kernel_rfl
def bn2 :FSum:=⟨123,[ac],[],[q],by exact u9 qg⟩
theorem ay3 :Rt bn2:=rq (.no) (.cons bB8 (.cons bB7 (.nil _))) fun _=>by kernel_rfl
def bX4 :FSum:=⟨56,[ac],[],[⟨.ret,[],⟨[(.tup [a,a])],[],[]⟩⟩],by exact u9 nF⟩
theorem wQ :Rt bX4:=rq (.no) (.cons ay3 (.cons wP (.nil _))) fun _=>by kernel_rfl
def bl8 :FSum:=⟨10,[ac],[],[x],by exact u9 mv⟩
theorem bo1 :Rt bl8:=rq (.no) (.cons bo0 (.cons wQ (.nil _))) fun _=>by kernel_rfl
def aU8 :FSum:=⟨57,[],[],[⟨.ret,[],⟨[(.agg [(.cint .i64 1),(.full 0),k,(.cint .i64 3),(.full 2),(.cint .i64 2),NS,(.cint .i64 3),(.cint .i64 100)])],[],[(.cells 1 false [(.cint .u64 5)]),(.cells 1 false [(.cint .u64 2)]),(.cells 5 false [(.cint .i64 1),i,i,(.cint .i64 2),(.cint .u64 0)])]⟩⟩],fun _=>ag9⟩
theorem aV8 :Rt aU8:=rq (.no) (.nil _) fun _=>by kernel_rfl
def bl6 :FSum:=⟨286,[p,a],[],[q],by exact u2 kT⟩
theorem yE :Rt bl6:=rq (.no) (.nil _) fun _=>by kernel_rfl
def am5 :FSum:=⟨251,[ac],[],[q],by exact u9 kl⟩
theorem ao1 :Rt am5:=rq (.no) (.cons yE (.nil _)) fun _=>by kernel_rfl
def bx1 :FSum:=⟨327,[o],[],[⟨.ret,[],⟨[(.tup [(.full 0),a])],[],[l]⟩⟩],lT⟩
theorem ad4 :Rt bx1:=iy (ins:=[⟨337,gt aB 337 ⟨[],[⟨338,gt aB 338 ⟨[],[]⟩ .no⟩]⟩ (.n .no (.n .no (.n .no (.n .no (.n (.n .no (.n (.lp [1,3] ⟨.normal,[11,5,6],⟨[a,(.full 4),p],[l,(.cells 1 false [(.full 5)])],[l,l]⟩⟩ [⟨(.exit 0),[6,5],⟨[p,(.full 4)],[l,(.cells 1 false [(.full 5)])],[l,l]⟩⟩] (.n .no (.n .no (.n (.n (.n .no (.jn [] [4] [⟨(.exit 0),[6,5],⟨[p,(.full 7)],[],[l]⟩⟩,⟨.normal,[5,6],⟨[(.full 7),p],[],[l]⟩⟩] (.n (.jn [] [] [⟨.normal,[16],⟨[p],[],[]⟩⟩] .no .no) .no) .no)) .no) .no)))) .no)) .no)))))⟩]) (at':= .no) (.nil _) (bp.cons (cy (.nil _) (bp.cons (cy (.nil _) (bp.nil _)) (bp.nil _))) (bp.nil _)) fun _=>by kernel_rfl
def bw8 :FSum:=⟨326,[p,a],[],[q],by exact u2 ji⟩
theorem vK :Rt bw8:=rq (.no) (.nil _) fun _=>by kernel_rfl
def bK5 :FSum:=⟨339,[a],[],[⟨.ret,[],⟨[(.agg [p,p,p,p])],[],[]⟩⟩],qW⟩
theorem aQ5 :Rt bK5:=rq ((.n .no (.n (.n .no (.n (.jn [] [] [⟨.normal,[4],⟨[p],[],[]⟩⟩] .no (.n .no (.jn [] [] [⟨.normal,[9],⟨[p],[],[]⟩⟩] .no .no))) .no)) .no))) (.nil _) fun _=>by kernel_rfl
def aZ5 :FSum:=⟨362,[a],[],[x],wB⟩
theorem bb3 :Rt aZ5:=rq (.no) (.nil _) fun _=>by kernel_rfl
def aE0 :FSum:=⟨363,[a,p],[],[x],by exact u2 kv⟩
theorem aE5 :Rt aE0:=rq (.no) (.nil _) fun _=>by kernel_rfl
def aZ4 :FSum:=⟨354,[am],[],[x],by exact u5 rT⟩
theorem bb2 :Rt aZ4:=rq (.no) (.cons aQ5 (.cons bb3 (.cons aE5 (.nil _)))) fun _=>by kernel_rfl
def zY :FSum:=⟨353,[am],[],[x],by exact u5 nu⟩
theorem ab7 :Rt zY:=rq (.no) (.cons bb2 (.nil _)) fun _=>by kernel_rfl
def sg :FSum:=⟨364,[o,(.fn 353 [] [])],[],[q],jN⟩
theorem sv :Rt sg:=rq ((.n .no (.n (.n .no (.n (.lp [] ⟨.normal,[8],⟨[a],[],[]⟩⟩ [⟨.ret,[4],⟨[a],[],[]⟩⟩,⟨(.exit 0),[],⟨[],[],[]⟩⟩] .no) .no)) .no))) (.cons ab7 (.nil _)) fun _=>by kernel_rfl
def qi :FSum:=⟨355,[o,(.fn 353 [] [])],[],[x],jg⟩
theorem qk :Rt qi:=rq (.no) (.cons sv (.nil _)) fun _=>by kernel_rfl
def oV :FSum:=⟨344,[y],[],[q],by exact u2 jq⟩
theorem ua :Rt oV:=rq (.no) (.cons ad4 (.cons vK (.cons qk (.nil _)))) fun _=>by kernel_rfl
def yz :FSum:=⟨365,[(.full 0)],[l],[⟨.ret,[],⟨[(.tup [])],[l],[]⟩⟩],cg⟩
theorem yH :Rt yz:=rq ((.n .no (.n (.lp [0] ⟨.normal,[2,3],⟨[a,a],[l],[]⟩⟩ [⟨(.exit 0),[],⟨[],[l],[]⟩⟩] .no) .no))) (.nil _) fun _=>by kernel_rfl
def aZ3 :FSum:=⟨357,[am],[],[⟨.ret,[],⟨[(.full 0)],[],[l]⟩⟩],by exact u5 rS⟩
theorem bb1 :Rt aZ3:=rq ((.n .no (.n .no (.jn [] [] [⟨.normal,[3],⟨[k],[],[l]⟩⟩] (.n .no (.n (.jn [] [] [⟨.normal,[3],⟨[k],[],[l]⟩⟩,⟨(.exit 0),[3],⟨[NS],[],[]⟩⟩] (.n (.jn [] [] [⟨.normal,[],⟨[],[],[]⟩⟩,⟨(.exit 2),[],⟨[],[],[]⟩⟩,⟨(.exit 0),[],⟨[],[],[]⟩⟩] .no .no) .no) .no) .no)) .no)))) (.cons yH (.nil _)) fun _=>by kernel_rfl
def aU9 :FSum:=⟨330,[am],[],[⟨.ret,[],⟨[(.tup [a,p])],[],[]⟩⟩],by exact u5 kA⟩
theorem ah2 :Rt aU9:=rq (.no) (.cons aQ5 (.nil _)) fun _=>by kernel_rfl
def tV :FSum:=⟨358,[a,d],[(.cells 1 true [a,o])],[x],by exact u3 kf⟩
theorem ub :Rt tV:=rq (.no) (.nil _) fun _=>by kernel_rfl
def wI :FSum:=⟨222,[(.leaf (.list r)),(.fn 358 [] [d])],[(.cells 1 true [a,o])],[q],by exact u3 lj⟩
theorem wR :Rt wI:=rq ((.n .no (.n (.n .no (.n (.lp [] ⟨.normal,[8],⟨[a],[],[]⟩⟩ [⟨.ret,[4],⟨[a],[],[]⟩⟩,⟨(.exit 0),[],⟨[],[],[]⟩⟩] .no) .no)) .no))) (.cons ub (.nil _)) fun _=>by kernel_rfl
def tY :FSum:=⟨170,[(.leaf (.list r)),(.fn 358 [] [d])],[(.cells 1 true [a,o])],[x],by exact u3 gg⟩
theorem uf :Rt tY:=rq (.no) (.cons wR (.nil _)) fun _=>by kernel_rfl
def vJ :FSum:=⟨356,[am,d],[(.cells 1 true [a,o])],[x],by exact u7 jv⟩
theorem vL :Rt vJ:=rq ((.n .no (.n .no (.jn [] [2] [⟨.normal,[4],⟨[(.full 3)],[],[l]⟩⟩] .no .no)))) (.cons bb1 (.cons ah2 (.cons uf (.nil _)))) fun _=>by kernel_rfl
def qL :FSum:=⟨364,[o,(.fn 356 [] [d])],[(.cells 1 true [a,o])],[q],by exact u3 jl⟩
theorem qN :Rt qL:=rq ((.n .no (.n (.n .no (.n (.lp [] ⟨.normal,[8],⟨[a],[],[]⟩⟩ [⟨.ret,[4],⟨[a],[],[]⟩⟩,⟨(.exit 0),[],⟨[],[],[]⟩⟩] .no) .no)) .no))) (.cons vL (.nil _)) fun _=>by kernel_rfl
def pG :FSum:=⟨355,[o,(.fn 356 [] [d])],[(.cells 1 true [a,o])],[x],by exact u3 iv⟩
theorem pI :Rt pG:=rq (.no) (.cons qN (.nil _)) fun _=>by kernel_rfl
def lJ :FSum:=⟨345,[y],[],[q],by exact u2 gi⟩
theorem pR :Rt lJ:=rq (.no) (.cons vK (.cons pI (.nil _))) fun _=>by kernel_rfl
def bK4 :FSum:=⟨359,[o],[],[⟨.ret,[],⟨[(.tup [a,a])],[],[]⟩⟩],xR⟩
theorem bM0 :Rt bK4:=iy (ins:=[⟨337,gt aB 337 ⟨[],[⟨366,gt aB 366 ⟨[],[]⟩ .no⟩]⟩ (.n .no (.n .no (.n .no (.n .no (.n (.n .no (.n (.lp [1] ⟨.normal,[11,5,6],⟨[a,(.full 2),p],[(.cells 1 false [a])],[l]⟩⟩ [⟨(.exit 0),[6,5],⟨[p,(.full 2)],[(.cells 1 false [a])],[l]⟩⟩] (.n .no (.n .no (.n (.n (.n .no (.jn [] [2] [⟨(.exit 0),[6,5],⟨[p,(.full 4)],[],[l]⟩⟩,⟨.normal,[5,6],⟨[(.full 4),p],[],[l]⟩⟩] (.n (.jn [] [] [⟨.normal,[16],⟨[p],[],[]⟩⟩] .no .no) .no) .no)) .no) .no)))) .no)) .no)))))⟩]) (at':= .no) (.nil _) (bp.cons (cy (.nil _) (bp.cons (cy (.nil _) (bp.nil _)) (bp.nil _))) (bp.nil _)) fun _=>by kernel_rfl
def oA :FSum:=⟨346,[y],[],[q],by exact u2 ja⟩
theorem sY :Rt oA:=rq (.no) (.cons bM0 (.cons vK (.nil _))) fun _=>by kernel_rfl
def bA7 :FSum:=⟨328,[a,h],[],[⟨.ret,[],⟨[(.tup [a,p])],[],[]⟩⟩],by exact u2 sf⟩
theorem bD7 :Rt bA7:=rq (.no) (.nil _) fun _=>by kernel_rfl
def bX6 :FSum:=⟨329,[(.leaf (.list r))],[],[q],wD⟩
theorem bY1 :Rt bX6:=rq ((.n .no (.n .no (.n (.n .no (.n (.lp [] ⟨.normal,[8,3],⟨[a,a],[],[]⟩⟩ [⟨(.exit 0),[3],⟨[a],[],[]⟩⟩] .no) .no)) .no)))) (.nil _) fun _=>by kernel_rfl
def ba6 :FSum:=⟨292,[o],[],[⟨.ret,[],⟨[(.tup [(.full 0),k,a,a])],[],[l,l]⟩⟩],li⟩
theorem ao5 :Rt ba6:=rq ((.n .no (.n .no (.n (.dr [0,1,3,4,2,6,5,7]) (.n .no (.n .no (.n (.n .no (.n (.lp [1,2] ⟨.normal,[34,8,5],⟨[a,(.full 4),i],[l,l],[(.arr false (.pair r r))]⟩⟩ [⟨(.exit 0),[5,8],⟨[a,(.full 4)],[l,l],[(.arr false (.pair r r))]⟩⟩] .no) .no)) (.jn [] [] [⟨.normal,[5],⟨[a],[],[]⟩⟩] .no .no)))))))) (.cons ad4 (.cons bD7 (.cons ah2 (.cons bY1 (.nil _))))) fun _=>by kernel_rfl
def ax6 :FSum:=⟨261,[o],[],[⟨.ret,[],⟨[(.tup [a,a])],[],[]⟩⟩],jf⟩
theorem qj :Rt ax6:=rq (.no) (.cons ao5 (.nil _)) fun _=>by kernel_rfl
def nJ :FSum:=⟨347,[y],[],[q],by exact u2 ip⟩
theorem si :Rt nJ:=rq (.no) (.cons qj (.nil _)) fun _=>by kernel_rfl
def bw7 :FSum:=⟨287,[y,y],[],[q],by exact u4 vp⟩
theorem bB3 :Rt bw7:=iy (ins:=[⟨325,gt aB 325 ⟨[oV,lJ,oA,nJ],[⟨336,gt aB 336 ⟨[],[]⟩ .no⟩]⟩ (.n .no (.n .no (.n (.n .no (.n (.n .no (.n .no (.n .no .no))) .no)) (.n (.n .no (.n (.n (.n .no (.n .no (.n (.n (.n .no (.n .no (.n (.n .no (.n .no (.n .no .no))) .no))) .no) .no))) (.n (.n .no (.n .no (.n (.n (.n .no (.n .no (.n (.n .no (.n .no (.n .no .no))) .no))) .no) .no))) (.n (.n .no (.n .no (.n (.n (.n .no (.n .no (.n (.n .no (.n .no (.n .no .no))) .no))) .no) .no))) (.n (.n .no (.n .no (.n (.n (.n .no (.n .no (.n (.n .no (.n .no (.n .no .no))) .no))) .no) .no))) (.n .no .no))))) .no)) .no))))⟩]) (at':= .no) (.nil _) (bp.cons (cy (.cons ua (.cons pR (.cons sY (.cons si (.nil _))))) (bp.cons (cy (.nil _) (bp.nil _)) (bp.nil _))) (bp.nil _)) fun _=>by kernel_rfl
def yy :FSum:=⟨252,[ac],[],[q],by exact u9 jd⟩
theorem yF :Rt yy:=rq (.no) (.cons bB3 (.nil _)) fun _=>by kernel_rfl
def bw6 :FSum:=⟨288,[y,y,a,a],[],[q],by exact u6 rE⟩
theorem bB2 :Rt bw6:=rq ((.n .no (.jn [] [] [⟨.normal,[9],⟨[p],[],[]⟩⟩] .no .no))) (.cons vK (.nil _)) fun _=>by kernel_rfl
def am4 :FSum:=⟨253,[ac],[],[q],by exact u9 kj⟩
theorem ao0 :Rt am4:=rq (.no) (.cons bB2 (.nil _)) fun _=>by kernel_rfl
def ab0 :FSum:=⟨254,[ac],[],[q],by exact u9 jM⟩
theorem ac8 :Rt ab0:=rq ((.n .no (.n .no (.jn [] [] [⟨.normal,[3],⟨[a],[],[]⟩⟩] .no .no)))) (.cons yE (.nil _)) fun _=>by kernel_rfl
def aa9 :FSum:=⟨255,[ac],[],[q],by exact u9 jL⟩
theorem ac7 :Rt aa9:=rq (.no) (.cons yE (.nil _)) fun _=>by kernel_rfl
def aY8 :FSum:=⟨198,[ac],[],[q],by exact u9 oQ⟩
theorem an9 :Rt aY8:=rq ((.n .no (.n .no (.n (.n .no (.n (.lp [] ⟨.normal,[20],⟨[a],[],[]⟩⟩ [⟨.ret,[2],⟨[a],[],[]⟩⟩,⟨(.exit 0),[],⟨[],[],[]⟩⟩] .no) .no)) .no)))) (.cons ao1 (.cons yF (.cons ao0 (.cons ac8 (.cons ac7 (.nil _)))))) fun _=>by kernel_rfl
def ck9 :FSum:=⟨213,[ac],[],[⟨.ret,[],⟨[(.tup [a,a])],[],[]⟩⟩],by exact u9 kX⟩
theorem pH :Rt ck9:=rq (.no) (.cons an9 (.cons qj (.nil _))) fun _=>by kernel_rfl
def bx2 :FSum:=⟨199,[ac],[],[⟨.ret,[],⟨[(.agg [a,a,a,a,a,a,a,a,a])],[],[]⟩⟩],by exact u9 rV⟩
theorem aE6 :Rt bx2:=rq ((.n .no (.n .no (.n .no (.n .no (.jn [] [] [⟨.normal,[7,8],⟨[a,a],[],[]⟩⟩] .no .no)))))) (.cons pH (.nil _)) fun _=>by kernel_rfl
def bX1 :FSum:=⟨201,[(.agg [a,a,a,a,a,a,a,a,a]),a],[],[⟨.ret,[],⟨[(.full 0)],[],[l]⟩⟩],by exact u10 wC⟩
theorem bb4 :Rt bX1:=iy (ins:=[⟨256,gt aB 256 ⟨[],[]⟩ .no⟩]) (at':=(.n .no (.n .no (.n .no (.n .no (.n (.n .no (.n (.lp [1] ⟨.normal,[10,7],⟨[a,(.full 2)],[(.cells 1 false [a])],[l]⟩⟩ [⟨(.exit 0),[7],⟨[(.full 2)],[(.cells 1 false [a])],[l]⟩⟩] .no) .no)) .no)))))) (.nil _) (bp.cons (cy (.nil _) (bp.nil _)) (bp.nil _)) fun _=>by kernel_rfl
def bK7 :FSum:=⟨200,[(.agg [a,a,a,a,a,a,a,a,a]),a],[],[q],by exact u10 tQ⟩
theorem bM1 :Rt bK7:=rq (.no) (.cons bb4 (.nil _)) fun _=>by kernel_rfl
def bK6 :FSum:=⟨125,[ac],[],[⟨.ret,[],⟨[(.tup [(.agg [a,a,a,a]),a])],[],[]⟩⟩],by exact u9 qX⟩
theorem aQ6 :Rt bK6:=rq ((.n .no (.n .no (.n .no (.n .no (.jn [] [] [⟨.normal,[6],⟨[a],[],[]⟩⟩] .no (.n .no (.n .no (.n (.n .no (.n (.lp [3] ⟨.normal,[35],⟨[a],[(.cells 1 false [a,a,a,a])],[]⟩⟩ [⟨(.exit 0),[],⟨[],[(.cells 1 false [a,a,a,a])],[]⟩⟩] .no) .no)) .no))))))))) (.cons an9 (.cons aE6 (.cons bM1 (.nil _)))) fun _=>by kernel_rfl
def uI :FSum:=⟨126,[.leaf bd],[],xd ae,gr⟩
theorem uL :Rt uI:=ap6 (es:=5) (bytes:=40) (z:=[(.int .i64 0),(.int .i64 0),(.int .i64 0),(.int .i64 0),(.int .u64 0)]) (s:=ae) (by kernel_rfl) (fun _=>by kernel_rfl) (fun _=>by kernel_rfl) (by kernel_rfl)
def kC :FSum:=⟨116,[.leaf ay],[],xd aq,ca⟩
theorem fc :Rt kC:=ap6 (es:=1) (bytes:=8) (z:=[(.int .u64 0)]) (s:=aq) (by kernel_rfl) (fun _=>by kernel_rfl) (fun _=>by kernel_rfl) (by kernel_rfl)
def bl9 :FSum:=⟨127,[ac],[],[⟨.ret,[],⟨[(.tup [(.full 0),a])],[],[l]⟩⟩],by exact u9 oh⟩
theorem bo2 :Rt bl9:=rq (.no) (.cons aQ6 (.cons aE6 (.cons bb4 (.nil _)))) fun _=>by kernel_rfl
def bl4 :FSum:=⟨59,[ac],[],[⟨.ret,[],⟨[(.tup [.nilp,a])],[],[]⟩⟩,⟨.ret,[],⟨[(.tup [d,i])],[],[(.cells 1 false [a,a,a,a,a,k,(.full 2),a,(.full 3),a,(.full 4),a,a,(.full 5), .nilp, .nilp, .nilp,a,i,(.cint .i64 (-1)),i,i,i,i,(.cint .u64 0)]),b,b,(.arr false ae),(.arr false ae),l]⟩⟩],by exact u9 mt⟩
theorem ax8 :Rt bl4:=rq (.no) (.cons aQ6 (.cons uL (.cons fc (.cons bo2 (.nil _))))) fun _=>by kernel_rfl
def bl2 :FSum:=⟨128,[a],[],[q],tw⟩
theorem ax7 :Rt bl2:=rq (.no) (.nil _) fun _=>by kernel_rfl
def bK1 :FSum:=⟨60,[a],[],[⟨.ret,[],⟨[(.tup [d,i])],[],[(.cells 1 false [k,i]),b]⟩⟩],al4⟩
theorem bL7 :Rt bK1:=rq (.no) (.cons ax7 (.nil _)) fun _=>by kernel_rfl
def aZ1 :FSum:=⟨129,[a,a,a],[],[⟨.ret,[],⟨[(.tup [.nilp,(.cint .i64 2)])],[],[]⟩⟩,⟨.ret,[],⟨[(.tup [d,i])],[],[w]⟩⟩],by exact u3 kZ⟩
theorem bb0 :Rt aZ1:=rq (.no) (.nil _) fun _=>by kernel_rfl
def bK3 :FSum:=⟨61,[a],[],[⟨.ret,[],⟨[(.tup [d,i])],[],[w]⟩⟩],aP9⟩
theorem bL9 :Rt bK3:=rq (.no) (.cons bb0 (.nil _)) fun _=>by kernel_rfl
def ab5 :FSum:=⟨130,[d,a,a],[v],[x],by exact u5 nB⟩
theorem ad3 :Rt ab5:=rq (.no) (.nil _) fun _=>by kernel_rfl
def aw4 :FSum:=⟨131,[d,a],[w],[⟨.ret,[],⟨[(.tup [])],[w],[]⟩⟩],by exact u4 kH⟩
theorem vh :Rt aw4:=rq (.no) (.nil _) fun _=>by kernel_rfl
def lq :FSum:=⟨62,[d,a],[w],[⟨.ret,[],⟨[a],[w],[]⟩⟩],by exact u4 fh⟩
theorem jo :Rt lq:=rq (.no) (.cons ad3 (.cons vh (.nil _))) fun _=>by kernel_rfl
def az0 :FSum:=⟨132,[d],[(.cells 1 true [k,a]),c],[q],by exact u2 qI⟩
theorem az9 :Rt az0:=rq (.no) (.nil _) fun _=>by kernel_rfl
def wF :FSum:=⟨63,[d,a],[(.cells 1 false [k,a]),c],[⟨.ret,[],⟨[(.tup [a,a])],[(.cells 1 false [k,a])],[]⟩⟩],by exact u3 gk⟩
theorem qM :Rt wF:=rq (.no) (.cons az9 (.nil _)) fun _=>by kernel_rfl
def yX :FSum:=⟨64,[d],[ai,c,c,g,g,m,aa,v,c],[x],by exact u27 mP⟩
theorem ri :Rt yX:=rq (.no) (.nil _) fun _=>by kernel_rfl
def aE2 :FSum:=⟨133,[(.agg [a,a,a])],[],[x],by exact u3 me⟩
theorem yd :Rt aE2:=rq (.no) (.nil _) fun _=>by kernel_rfl
def wJ :FSum:=⟨134,[(.agg [a,a,a])],[],[q],by exact u3 gm⟩
theorem nP :Rt wJ:=rq (.no) (.nil _) fun _=>by kernel_rfl
def pX :FSum:=⟨135,[d,a,j],[(.cells 1 true [k,a]),b],[⟨.ret,[],⟨[a],[b],[]⟩⟩],by exact u4 fy⟩
theorem jP :Rt pX:=iy (ins:=[⟨202,gt aB 202 ⟨[],[⟨203,gt aB 203 ⟨[],[]⟩ .no⟩]⟩ .no⟩]) (at':= .no) (.nil _) (bp.cons (cy (.nil _) (bp.cons (cy (.nil _) (bp.nil _)) (bp.nil _))) (bp.nil _)) fun _=>by kernel_rfl
def bL4 :FSum:=⟨65,[d,a,a],[(.cells 1 false [k,a]),b],[⟨.ret,[],⟨[(.tup [(.ptr 2 0),i])],[(.cells 1 false [k,a]),b],[(.cells 1 false [a,a,a,d])]⟩⟩],by exact u4 aQ0⟩
theorem bM4 :Rt bL4:=rq (.no) (.cons yd (.cons nP (.cons qM (.cons jP (.nil _))))) fun _=>by kernel_rfl
def wH :FSum:=⟨66,[d,a,j],[ai,c,c,g,g,m,aa,v,b],[⟨.ret,[],⟨[(.tup [])],[b],[]⟩⟩],by exact u29 bu⟩
theorem jW :Rt wH:=rq (.no) (.cons jP (.nil _)) fun _=>by kernel_rfl
def am0 :FSum:=⟨66,[d,a,j],[aj,c,c,g,g,m,ad,ab,v,b],[⟨.ret,[],⟨[(.tup [])],[b],[]⟩⟩],by exact u32 cq⟩
theorem ie :Rt am0:=rq (.no) (.cons jP (.nil _)) fun _=>by kernel_rfl
def bK2 :FSum:=⟨12,[ac],[],[⟨.ret,[],⟨[(.tup [.nilp,a])],[],[]⟩⟩,⟨.ret,[],⟨[(.tup [d,i])],[],[(.cells 1 false [a,a,a,a,a,k,(.full 2),a,(.full 3),a,(.full 4),a,a,(.full 5),af, .nilp,(.ptr 7 0),a,i,(.cint .i64 (-1)),i,i,i,i,(.cint .u64 0)]),b,b,(.arr false ae),(.arr false ae),l,(.cells 1 false [(.full 8),a]),w,b]⟩⟩,⟨.ret,[],⟨[(.tup [d,i])],[],[(.cells 1 false [a,a,a,a,a,k,(.full 2),a,(.full 3),a,(.full 4),a,a,(.full 5),af,(.ptr 7 0),(.ptr 8 0),a,i,(.cint .i64 (-1)),i,i,i,i,(.cint .u64 0)]),b,b,(.arr false ae),(.arr false ae),l,(.cells 1 false [(.full 9),a]),(.cells 1 false [a,a,a,af]),w,b]⟩⟩],by exact u9 aP8⟩
theorem bL8 :Rt bK2:=rq ((.n .no (.n .no (.n .no (.n .no (.n .no (.n .no (.n .no (.jn [1,7,8] [] [⟨.normal,[],⟨[],[(.cells 1 false [a,a,a,a,a,(.full 2),(.full 3),a,(.full 4),a,(.full 5),a,a,(.full 6),(.ptr 7 0), .nilp,(.ptr 9 0),a,i,(.cint .i64 (-1)),i,i,i,i,(.cint .u64 0)]),(.cells 1 false [(.full 8),a]),b],[]⟩⟩,⟨.normal,[],⟨[],[(.cells 1 false [a,a,a,a,a,(.full 2),(.full 3),a,(.full 4),a,(.full 5),a,a,(.full 6),(.ptr 7 0),(.ptr 10 0),(.ptr 9 0),a,i,(.cint .i64 (-1)),i,i,i,i,(.cint .u64 0)]),(.cells 1 false [(.full 8),a]),b],[(.cells 1 false [a,a,a,(.ptr 7 0)])]⟩⟩] .no .no))))))))) (.cons ax8 (.cons bL7 (.cons bL9 (.cons jo (.cons qM (.cons ri (.cons bM4 (.cons jW (.cons ie (.nil _)))))))))) fun _=>by kernel_rfl
def wE :FSum:=⟨165,[d,a,a],[(.cells 1 true [k,a]),c],[⟨.ret,[],⟨[(.tup [(.full 2),a])],[],[b]⟩⟩],by exact u4 ec⟩
theorem lr :Rt wE:=iy (ins:=[⟨202,gt aB 202 ⟨[],[⟨219,gt aB 219 ⟨[kC],[]⟩ .no⟩]⟩ .no⟩]) (at':= .no) (.nil _) (bp.cons (cy (.nil _) (bp.cons (cy (.cons fc (.nil _)) (bp.nil _)) (bp.nil _))) (bp.nil _)) fun _=>by kernel_rfl
def nK :FSum:=⟨95,[d,a],[ai,c,c,g,g,m,aa,v,c],[⟨.ret,[],⟨[(.full 9)],[],[b]⟩⟩],by exact u28 cz⟩
theorem jm :Rt nK:=rq (.no) (.cons lr (.nil _)) fun _=>by kernel_rfl
def tX :FSum:=⟨262,[(.leaf aw)],[],[⟨.ret,[],⟨[(.full 0)],[],[b]⟩⟩],gf⟩
theorem np :Rt tX:=iy (ins:=[⟨293,gt aB 293 ⟨[],[]⟩ .no⟩]) (at':=(.n .no (.n .no (.n (.n .no (.n (.lp [] ⟨.normal,[11,3],⟨[a,a],[],[]⟩⟩ [⟨(.exit 0),[3],⟨[a],[],[]⟩⟩] .no) .no)) (.n .no (.n (.n .no (.n (.sz 0 (.lp [] ⟨.normal,[27,6],⟨[a,(.full 0)],[],[b]⟩⟩ [⟨(.exit 2),[6],⟨[(.full 0)],[],[b]⟩⟩] .no) (.lp [] ⟨.normal,[27,6],⟨[a,k],[],[b]⟩⟩ [⟨(.exit 2),[6],⟨[k],[],[b]⟩⟩] .no)) .no)) .no)))))) (.nil _) (bp.cons (cy (.nil _) (bp.nil _)) (bp.nil _)) fun _=>by kernel_rfl
def al7 :FSum:=⟨214,[d,y,j,j],[ai,c,c,g,g,m,aa,v,c],[⟨.ret,[],⟨[(.full 9)],[],[b]⟩⟩],by exact u31 kg⟩
theorem uc :Rt al7:=rq (.no) (.cons jm (.cons np (.nil _))) fun _=>by kernel_rfl
def aU5 :FSum:=⟨331,[y],[],[q],by exact u2 qw⟩
theorem aV5 :Rt aU5:=iy (ins:=[⟨325,gt aB 325 ⟨[oV,lJ,oA,nJ],[⟨336,gt aB 336 ⟨[],[]⟩ .no⟩]⟩ (.n .no (.n .no (.n (.n .no (.n (.n .no (.n .no .no)) .no)) (.n (.n .no (.n (.n (.n .no (.n .no (.n (.n (.n .no (.n .no (.n (.n .no (.n .no .no)) .no))) .no) .no))) (.n (.n .no (.n .no (.n (.n (.n .no (.n .no (.n (.n .no (.n .no .no)) .no))) .no) .no))) (.n (.n .no (.n .no (.n (.n (.n .no (.n .no (.n (.n .no (.n .no .no)) .no))) .no) .no))) (.n (.n .no (.n .no (.n (.n (.n .no (.n .no (.n (.n .no (.n .no .no)) .no))) .no) .no))) (.n .no .no))))) .no)) .no))))⟩]) (at':= .no) (.nil _) (bp.cons (cy (.cons ua (.cons pR (.cons sY (.cons si (.nil _))))) (bp.cons (cy (.nil _) (bp.nil _)) (bp.nil _))) (bp.nil _)) fun _=>by kernel_rfl
def bA6 :FSum:=⟨332,[o],[],[⟨.ret,[],⟨[(.tup [(.full 0),a])],[],[l]⟩⟩],zW⟩
theorem bD6 :Rt bA6:=rq (.no) (.cons ao5 (.nil _)) fun _=>by kernel_rfl
def aQ1 :FSum:=⟨294,[y],[],[⟨.ret,[],⟨[(.tup [(.full 0),a])],[],[(.arr false ao)]⟩⟩],by exact u2 oP⟩
theorem xZ :Rt aQ1:=rq ((.n .no (.n .no (.n .no (.n .no (.n .no (.n .no (.n (.n .no (.n (.lp [] ⟨.normal,[11,10,9],⟨[a,(.full 3),(.full 4)],[],[l,(.arr false ao)]⟩⟩ [⟨(.exit 0),[9],⟨[(.full 3)],[],[(.arr false ao)]⟩⟩] (.n .no (.n (.n (.n .no (.jn [] [3,4] [⟨(.exit 1),[11,10,9],⟨[a,(.full 6),(.full 7)],[],[l,(.arr false ao)]⟩⟩,⟨.normal,[9,11,10],⟨[(.full 6),a,(.full 7)],[],[(.arr false ao),l]⟩⟩] (.n (.jn [] [] [⟨.normal,[43],⟨[p],[],[]⟩⟩] .no .no) .no) .no)) .no) .no))) .no)) .no)))))))) (.cons aV5 (.cons ad4 (.cons bD6 (.nil _)))) fun _=>by kernel_rfl
def bA9 :FSum:=⟨263,[y,j,j],[],[⟨.ret,[],⟨[(.tup [(.full 0),a])],[],[(.arr false ao)]⟩⟩],by exact u4 zX⟩
theorem bD8 :Rt bA9:=rq (.no) (.cons xZ (.cons qj (.nil _))) fun _=>by kernel_rfl
def aZ2 :FSum:=⟨295,[am,h,h],[],[⟨.ret,[],⟨[h],[],[]⟩⟩],by exact u7 oS⟩
theorem ao3 :Rt aZ2:=rq (.no) (.nil _) fun _=>by kernel_rfl
def bL5 :FSum:=⟨264,[(.full 0),k,(.full 2)],[(.arr true ao),b,b],[⟨.ret,[],⟨[a],[b,b],[]⟩⟩],by exact u3 xW⟩
theorem bM5 :Rt bL5:=rq ((.n .no (.n .no (.n .no (.n (.lp [1,2,3] ⟨.normal,[8,10,9],⟨[a,a,a],[b,b,au],[]⟩⟩ [⟨.ret,[6],⟨[a],[b,b,au],[]⟩⟩] .no) .no))))) (.cons ao3 (.nil _)) fun _=>by kernel_rfl
def bn7 :FSum:=⟨215,[(.agg [a,(.full 0)]),k,(.full 2)],[g,b,b],[⟨.ret,[],⟨[(.tup [a,a])],[b,b],[]⟩⟩],by exact u4 mz⟩
theorem tG :Rt bn7:=rq (.no) (.cons bD8 (.cons bM5 (.nil _))) fun _=>by kernel_rfl
def am3 :FSum:=⟨162,[d],[ah,c,c,g,g,m,aa,v,b],[⟨.ret,[],⟨[(.tup [(.full 9),(.full 10)])],[ah,b],[b,b]⟩⟩],by exact u27 lS⟩
theorem an8 :Rt am3:=rq ((.n .no (.n .no (.n (.dr [0,1,2,3,4,5,6,8,9,10,11,12,15,1013,1016,7,13,1016,14,17,16,18]) .no)))) (.cons pH (.cons jm (.cons uc (.cons tG (.cons jW (.nil _)))))) fun _=>by kernel_rfl
def am1 :FSum:=⟨163,[d,a],[ai,c,c,g,g,m,aa,v,c],[q],by exact u28 ki⟩
theorem an6 :Rt am1:=rq (.no) (.nil _) fun _=>by kernel_rfl
def aD9 :FSum:=⟨221,[y,j],[],[⟨.ret,[],⟨[(.full 0)],[],[b]⟩⟩],by exact u3 nz⟩
theorem vM :Rt aD9:=rq (.no) (.cons fc (.nil _)) fun _=>by kernel_rfl
def xX :FSum:=⟨340,[am,h,h],[],[⟨.ret,[],⟨[(.tup [h,h])],[],[]⟩⟩],by exact u7 lU⟩
theorem ya :Rt xX:=rq (.no) (.nil _) fun _=>by kernel_rfl
def az6 :FSum:=⟨333,[(.agg [(.full 0),k,(.full 2)]),am,a],[b,b,c],[⟨.ret,[],⟨[(.tup [])],[b,b],[]⟩⟩],by exact u9 nI⟩
theorem aA3 :Rt az6:=rq (.no) (.cons ya (.nil _)) fun _=>by kernel_rfl
def az5 :FSum:=⟨296,[(.agg [(.full 0),k,(.full 2)]),(.full 3),a],[b,b,c,(.arr true ao)],[⟨.ret,[],⟨[(.tup [])],[b,b],[]⟩⟩],by exact u5 nH⟩
theorem aA2 :Rt az5:=rq ((.n .no (.n .no (.n .no (.n (.lp [0,1,5] ⟨.normal,[7,8,2],⟨[a,a,a],[b,b,au],[]⟩⟩ [⟨.ret,[],⟨[],[b,b,au],[]⟩⟩] .no) .no))))) (.cons aA3 (.nil _)) fun _=>by kernel_rfl
def bA8 :FSum:=⟨265,[(.agg [a,(.full 0)]),k,(.full 2),(.full 3)],[g,b,b,c],[⟨.ret,[],⟨[a],[b,b],[]⟩⟩],by exact u5 pF⟩
theorem ad9 :Rt bA8:=rq (.no) (.cons xZ (.cons qj (.cons aA2 (.nil _)))) fun _=>by kernel_rfl
def aw0 :FSum:=⟨220,[d,(.agg [a,k]),(.full 2),(.full 3),(.full 4)],[(.cells 1 false [a,a,a,a,a,(.full 5),(.full 6),a,(.full 7),a,k,a,a,(.full 8),(.ptr 9 0), .nilp,(.ptr 10 0),a,a,a,a,a,a,a,h]),g,b,b,c,c,c,g,m,(.cells 1 true [(.full 11),a]),v,b],[⟨.ret,[],⟨[(.tup [])],[(.cells 1 false [a,a,a,a,a,(.full 5),(.full 6),a,(.full 7),a,k,a,a,(.full 8),(.ptr 9 0), .nilp,(.ptr 10 0),a,a,a,a,a,a,a,h]),b,b,b],[]⟩⟩],by exact u31 mM⟩
theorem aw9 :Rt aw0:=rq ((.n .no (.n .no (.n .no (.n .no (.n .no (.n .no (.n (.n .no (.n (.lp [13] ⟨.normal,[36],⟨[a],[b],[]⟩⟩ [⟨(.exit 0),[],⟨[],[b],[]⟩⟩] .no) .no)) .no)))))))) (.cons ad9 (.cons jW (.cons jm (.nil _)))) fun _=>by kernel_rfl
def wG :FSum:=⟨218,[d,j],[ah,c,c,g,g,m,aa,v,b],[⟨.ret,[],⟨[(.tup [])],[ah,b],[]⟩⟩],by exact u28 nv⟩
theorem aA0 :Rt wG:=rq ((.n .no (.n (.dr [0,1,2,3,4,5,6,8,1009,7,10,9,11]) .no))) (.cons pH (.cons uc (.cons tG (.cons jW (.cons vM (.cons aw9 (.nil _))))))) fun _=>by kernel_rfl
def lm :FSum:=⟨167,[d,a],[w],[⟨.ret,[],⟨[a],[w],[]⟩⟩],by exact u4 dj⟩
theorem jX :Rt lm:=rq (.no) (.cons vh (.nil _)) fun _=>by kernel_rfl
def aw3 :FSum:=⟨164,[d,a],[ah,c,c,g,g,m,aa,w,b],[⟨.ret,[],⟨[(.tup [])],[ah,w,b],[]⟩⟩],by exact u28 kG⟩
theorem vg :Rt aw3:=iy (ins:=[⟨216,gt aB 216 ⟨[lq,lm],[⟨217,gt aB 217 ⟨[nK,wG],[]⟩ .no⟩]⟩ .no⟩]) (at':= .no) (.cons pH (.nil _)) (bp.cons (cy (.cons jo (.cons jX (.nil _))) (bp.cons (cy (.cons jm (.cons aA0 (.nil _))) (bp.nil _)) (bp.nil _))) (bp.nil _)) fun _=>by kernel_rfl
def al9 :FSum:=⟨90,[d,(.agg [a,a])],[ah,c,c,g,g,m,aa,w,b],[⟨.ret,[],⟨[a],[ah,w,b],[]⟩⟩],by exact u29 lR⟩
theorem an5 :Rt al9:=iy (ins:=[⟨166,gt aB 166 ⟨[nK,aD9],[⟨220,gt aB 220 ⟨[wH,nK],[⟨265,gt aB 265 ⟨[aQ1,ax6],[⟨296,gt aB 296 ⟨[],[⟨333,gt aB 333 ⟨[xX],[]⟩ .no⟩]⟩ (.n .no (.n .no (.n .no (.n (.lp [10,12,17] ⟨.normal,[7,8,2],⟨[a,a,a],[b,b,au],[]⟩⟩ [⟨.ret,[],⟨[],[b,b,au],[]⟩⟩] .no) .no))))⟩]⟩ .no⟩]⟩ (.n .no (.n .no (.n .no (.n .no (.n .no (.n .no (.n (.n .no (.n (.sz 1019 (.lp [18] ⟨.normal,[36],⟨[a],[b],[]⟩⟩ [⟨(.exit 0),[],⟨[],[b],[]⟩⟩] .no) (.lp [16] ⟨.normal,[36],⟨[a],[b],[]⟩⟩ [⟨(.exit 0),[],⟨[],[b],[]⟩⟩] .no)) .no)) .no)))))))⟩]⟩ .no⟩]) (at':=(.n .no (.jn [] [] [⟨.normal,[5],⟨[p],[],[]⟩⟩] .no (.jn [] [] [⟨.ret,[4],⟨[a],[],[]⟩⟩,⟨.normal,[],⟨[],[],[]⟩⟩] (.n (.jn [] [] [⟨.normal,[19],⟨[p],[],[]⟩⟩] .no (.n .no (.jn [] [] [⟨.normal,[32],⟨[p],[],[]⟩⟩] .no .no))) .no) .no)))) (.cons jo (.cons an8 (.cons an6 (.cons jP (.cons jW (.cons vg (.cons lr (.cons jX (.nil _))))))))) (bp.cons (cy (.cons jm (.cons vM (.nil _))) (bp.cons (cy (.cons jW (.cons jm (.nil _))) (bp.cons (cy (.cons xZ (.cons qj (.nil _))) (bp.cons (cy (.nil _) (bp.cons (cy (.cons ya (.nil _)) (bp.nil _)) (bp.nil _))) (bp.nil _))) (bp.nil _))) (bp.nil _))) (bp.nil _)) fun _=>by kernel_rfl
def az3 :FSum:=⟨96,[.nilp],[],[⟨.ret,[],⟨[NS],[],[]⟩⟩],fun _=>nG⟩
theorem qO :Rt az3:=rq (.no) (.nil _) fun _=>by kernel_rfl
def av9 :FSum:=⟨29,[d],[ai,c,c,g,g,m,aa,v,c],[⟨.ret,[],⟨[(.agg [a,a,NS])],[],[]⟩⟩],by exact u27 uX⟩
theorem aw8 :Rt av9:=rq (.no) (.cons qO (.nil _)) fun _=>by kernel_rfl
def aZ0 :FSum:=⟨169,[a],[],[x],rR⟩
theorem ba9 :Rt aZ0:=rq (.no) (.nil _) fun _=>by kernel_rfl
def aY9 :FSum:=⟨168,[a,d],[(.cells 1 true [a])],[x],by exact u2 kn⟩
theorem ao2 :Rt aY9:=rq (.no) (.nil _) fun _=>by kernel_rfl
def uJ :FSum:=⟨222,[(.leaf (.list r)),(.fn 168 [] [d])],[(.cells 1 true [a])],[q],by exact u2 jk⟩
theorem uM :Rt uJ:=rq ((.n .no (.n (.n .no (.n (.lp [] ⟨.normal,[8],⟨[a],[],[]⟩⟩ [⟨.ret,[4],⟨[a],[],[]⟩⟩,⟨(.exit 0),[],⟨[],[],[]⟩⟩] .no) .no)) .no))) (.cons ao2 (.nil _)) fun _=>by kernel_rfl
def sH :FSum:=⟨170,[(.leaf (.list r)),(.fn 168 [] [d])],[(.cells 1 true [a])],[x],by exact u2 dw⟩
theorem sJ :Rt sH:=rq (.no) (.cons uM (.nil _)) fun _=>by kernel_rfl
def ab6 :FSum:=⟨171,[.leaf (.list r)],[],xd r,kQ⟩
theorem su :Rt ab6:=ap6 (es:=1) (bytes:=8) (z:=[(.int .i64 0)]) (s:=r) (by kernel_rfl) (fun _=>by kernel_rfl) (fun _=>by kernel_rfl) (by kernel_rfl)
def bx0 :FSum:=⟨91,[a,(.agg [a,a,(.leaf (.list r))])],[],[⟨.ret,[],⟨[(.tup [.nilp,(.cint .i64 2)])],[],[]⟩⟩,⟨.ret,[],⟨[(.tup [d,i])],[],[(.cells 1 false [a,a,a,i,k]),l]⟩⟩],by exact u4 kO⟩
theorem ac9 :Rt bx0:=rq (.no) (.cons ba9 (.cons ao2 (.cons sJ (.cons su (.nil _))))) fun _=>by kernel_rfl
def aD6 :FSum:=⟨223,[a],[],[x],xQ⟩
theorem aE3 :Rt aD6:=rq (.no) (.nil _) fun _=>by kernel_rfl
def aY6 :FSum:=⟨172,[(.agg [a,a])],[],[x],by exact u2 al3⟩
theorem ba7 :Rt aY6:=rq ((.n .no (.n (.n (.jn [] [] [⟨.normal,[3],⟨[p],[],[]⟩⟩] .no .no) .no) .no))) (.cons aE3 (.nil _)) fun _=>by kernel_rfl
def yZ :FSum:=⟨173,[d],[(.cells 1 true [a,a,a,a,k]),m],[⟨.ret,[],⟨[(.agg [.nilf,(.fn 224 [d] []),(.fn 225 [d] []),(.fn 226 [d] []),(.fn 227 [d] []),(.fn 228 [d] []),(.fn 229 [d] []),(.fn 230 [d] [])])],[],[]⟩⟩],by exact u5 qU⟩
theorem zg :Rt yZ:=rq (.no) (.nil _) fun _=>by kernel_rfl
def xG :FSum:=⟨224,[d,a],[al,m],[⟨.ret,[],⟨[a],[al],[]⟩⟩],by exact u6 pO⟩
theorem xL :Rt xG:=rq (.no) (.nil _) fun _=>by kernel_rfl
def zc :FSum:=⟨225,[d,a],[(.cells 1 true [a,a,a,a,k]),l],[⟨.ret,[],⟨[a],[l],[]⟩⟩],by exact u6 qV⟩
theorem zi :Rt zc:=rq (.no) (.nil _) fun _=>by kernel_rfl
def xH :FSum:=⟨226,[d,a],[al,m],[⟨.ret,[],⟨[a],[al],[]⟩⟩],by exact u6 pP⟩
theorem xM :Rt xH:=rq (.no) (.nil _) fun _=>by kernel_rfl
def ab3 :FSum:=⟨227,[d,a],[(.cells 1 true [a,a,a,a,k]),l],[⟨.ret,[],⟨[a],[l],[]⟩⟩],by exact u6 rP⟩
theorem ad1 :Rt ab3:=rq (.no) (.nil _) fun _=>by kernel_rfl
def yY :FSum:=⟨266,[d,a],[al,m],[⟨.ret,[],⟨[a],[al],[]⟩⟩],by exact u6 mQ⟩
theorem rj :Rt yY:=rq (.no) (.nil _) fun _=>by kernel_rfl
def ab4 :FSum:=⟨228,[d,a],[al,m],[⟨.ret,[],⟨[a],[al],[]⟩⟩],by exact u6 rQ⟩
theorem ad2 :Rt ab4:=rq (.no) (.cons rj (.nil _)) fun _=>by kernel_rfl
def ab2 :FSum:=⟨229,[d,a],[al,m],[⟨.ret,[],⟨[a],[al],[]⟩⟩],by exact u6 rO⟩
theorem ad0 :Rt ab2:=rq (.no) (.cons rj (.nil _)) fun _=>by kernel_rfl
def xI :FSum:=⟨230,[d,a],[al,m],[⟨.ret,[],⟨[a],[al],[]⟩⟩],by exact u6 pQ⟩
theorem xN :Rt xI:=rq (.no) (.nil _) fun _=>by kernel_rfl
def am6 :FSum:=⟨92,[d,(.agg [a,a])],[al,l],[⟨.ret,[],⟨[a],[al,l],[]⟩⟩],by exact u7 oR⟩
theorem ue :Rt am6:=rq ((.n .no (.jn [] [] [⟨.ret,[4],⟨[(.cint .i64 2)],[],[]⟩⟩,⟨.normal,[],⟨[],[],[]⟩⟩] (.n (.n .no (.n .no (.jn [] [] [⟨.normal,[8],⟨[p],[],[]⟩⟩] .no .no))) .no) .no))) (.cons ba7 (.cons zg (.cons xL (.cons zi (.cons xM (.cons ad1 (.cons ad2 (.cons ad0 (.cons xN (.nil _)))))))))) fun _=>by kernel_rfl
def al8 :FSum:=⟨93,[d],[ai,c,c,g,g,m,aa,v,c],[⟨.ret,[],⟨[(.agg [.nilf,(.fn 174 [d] []),(.fn 175 [d] []),(.fn 176 [d] []),(.fn 177 [d] []),(.fn 164 [d] []),(.fn 178 [d] []),(.fn 179 [d] [])])],[],[]⟩⟩],by exact u27 tO⟩
theorem an4 :Rt al8:=lC (fun _=>rfl)
def aU7 :FSum:=⟨267,[y,j],[],[⟨.ret,[],⟨[(.tup [(.full 0),k,a])],[],[(.arr false ao),b]⟩⟩],by exact u3 uG⟩
theorem aV7 :Rt aU7:=rq (.no) (.cons xZ (.nil _)) fun _=>by kernel_rfl
def aU6 :FSum:=⟨269,[a,am],[],[⟨.ret,[],⟨[(.tup [])],[],[]⟩⟩],by exact u6 uF⟩
theorem aV6 :Rt aU6:=rq (.no) (.nil _) fun _=>by kernel_rfl
def aY7 :FSum:=⟨268,[(.full 0),k,a,(.fn 269 [] [])],[(.arr true ao),b],[⟨.ret,[],⟨[(.tup [])],[b],[]⟩⟩],by exact u3 rN⟩
theorem ba8 :Rt aY7:=rq ((.n .no (.n .no (.n (.lp [1,2] ⟨.normal,[9,11,10],⟨[a,a,a],[b,au],[]⟩⟩ [⟨.ret,[],⟨[],[b,au],[]⟩⟩] .no) .no)))) (.cons ao3 (.cons aV6 (.nil _))) fun _=>by kernel_rfl
def bl5 :FSum:=⟨231,[y,j],[],[⟨.ret,[],⟨[(.tup [(.full 0),a])],[],[b]⟩⟩],by exact u3 qc⟩
theorem bn9 :Rt bl5:=rq (.no) (.cons aV7 (.cons ba8 (.nil _))) fun _=>by kernel_rfl
def aa2 :FSum:=⟨174,[d,a],[ah,c,c,g,g,m,aa,v,b],[⟨.ret,[],⟨[(.tup [])],[ah,b],[]⟩⟩],by exact u28 rG⟩
theorem ac1 :Rt aa2:=lC (fun _=>rfl)
def ab1 :FSum:=⟨94,[d],[(.cells 1 true [a,a,a,a,k]),m],[⟨.ret,[],⟨[(.agg [a,a,(.full 2)])],[],[l]⟩⟩],by exact u5 cf⟩
theorem sm :Rt ab1:=rq (.no) (.cons su (.nil _)) fun _=>by kernel_rfl
def am2 :FSum:=⟨175,[d,a],[ai,c,c,g,g,m,aa,w,c],[⟨.ret,[],⟨[(.tup [])],[w],[]⟩⟩],by exact u28 tP⟩
theorem an7 :Rt am2:=lC (fun _=>rfl)
def aa6 :FSum:=⟨176,[d,a],[ai,c,c,g,g,m,aa,v,b],[⟨.ret,[],⟨[(.tup [])],[b],[]⟩⟩],by exact u28 rK⟩
theorem ac4 :Rt aa6:=lC (fun _=>rfl)
def aw2 :FSum:=⟨177,[d,a],[ai,c,c,g,g,m,aa,w,c],[⟨.ret,[],⟨[(.tup [])],[w],[]⟩⟩],by exact u28 uZ⟩
theorem ax1 :Rt aw2:=lC (fun _=>rfl)
def aw1 :FSum:=⟨178,[d,a],[ah,c,c,g,g,m,aa,w,b],[⟨.ret,[],⟨[(.tup [])],[ah,w,b],[]⟩⟩],by exact u28 uY⟩
theorem ax0 :Rt aw1:=lC (fun _=>rfl)
def aa7 :FSum:=⟨179,[d,a],[ah,c,c,g,g,m,aa,w,b],[⟨.ret,[],⟨[(.tup [])],[ah,w,b],[]⟩⟩],by exact u28 rL⟩
theorem ac5 :Rt aa7:=lC (fun _=>rfl)
def aD8 :FSum:=⟨26,[d,(.agg [a,a])],[ah,c,c,g,g,m,aa,w,b],[⟨.ret,[],⟨[a],[ah,w,b],[]⟩⟩],by exact u29 gx⟩
theorem aE4 :Rt aD8:=rq (.no) (.cons ri (.cons an5 (.cons aw8 (.cons ac9 (.cons ue (.cons an4 (.cons ac1 (.cons sm (.cons an7 (.cons ac4 (.cons ax1 (.cons vg (.cons ax0 (.cons ac5 (.nil _))))))))))))))) fun _=>by kernel_rfl
def ai4 :FSum:=⟨27,[d],[ai,c,c,g,g,m,aa,v,c],[⟨.ret,[],⟨[(.tup [(.agg [h,(.full 9),(.full 10)]),a])],[],[b,b]⟩⟩],by exact u27 sK⟩
theorem aj6 :Rt ai4:=rq (.no) (.cons jm (.nil _)) fun _=>by kernel_rfl
def bz0 :FSum:=⟨31,[(.agg [h,j,j]),(.agg [h,j,j])],[],[x],by exact u6 zT⟩
theorem bC5 :Rt bz0:=rq ((.n .no (.n .no (.n (.n .no (.n (.lp [] ⟨.normal,[5],⟨[a],[],[]⟩⟩ [⟨.ret,[4],⟨[p],[],[]⟩⟩,⟨(.exit 0),[],⟨[],[],[]⟩⟩] .no) .no)) (.n (.n .no (.n (.lp [] ⟨.normal,[6],⟨[a],[],[]⟩⟩ [⟨.ret,[4],⟨[p],[],[]⟩⟩,⟨(.exit 2),[],⟨[],[],[]⟩⟩] .no) .no)) .no))))) (.nil _) fun _=>by kernel_rfl
def al5 :FSum:=⟨58,[d],[ai,c,c,g,g,m,aa,v,c],[⟨.ret,[],⟨[(.agg [a,a,a,a])],[],[]⟩⟩],by exact u27 tN⟩
theorem an2 :Rt al5:=rq (.no) (.nil _) fun _=>by kernel_rfl
def xC :FSum:=⟨64,[d],[aj,c,c,g,g,m,ad,ab,v,c],[x],by exact u30 pN⟩
theorem xJ :Rt xC:=rq (.no) (.nil _) fun _=>by kernel_rfl
def tW :FSum:=⟨95,[d,a],[aj,c,c,g,g,m,ad,ab,v,c],[⟨.ret,[],⟨[(.full 10)],[],[b]⟩⟩],by exact u31 dp⟩
theorem fe :Rt tW:=rq (.no) (.cons lr (.nil _)) fun _=>by kernel_rfl
def aa3 :FSum:=⟨214,[d,y,j,j],[aj,c,c,g,g,m,ad,ab,v,c],[⟨.ret,[],⟨[(.full 10)],[],[b]⟩⟩],by exact u34 kN⟩
theorem nN :Rt aa3:=rq (.no) (.cons fe (.cons np (.nil _))) fun _=>by kernel_rfl
def nL :FSum:=⟨162,[d],[ag,c,c,g,g,m,ad,ab,v,b],[⟨.ret,[],⟨[(.tup [(.full 10),(.full 11)])],[ag,b],[b,b]⟩⟩],by exact u30 ny⟩
theorem sj :Rt nL:=rq ((.n .no (.n .no (.n (.dr [0,1,2,3,4,5,6,8,9,10,11,12,15,1013,1016,7,13,1016,14,17,16,18]) .no)))) (.cons pH (.cons fe (.cons nN (.cons tG (.cons ie (.nil _)))))) fun _=>by kernel_rfl
def ai8 :FSum:=⟨220,[d,(.agg [a,k]),(.full 2),(.full 3),(.full 4)],[(.cells 1 false [a,a,a,a,a,(.full 5),(.full 6),a,(.full 7),a,k,a,a,(.full 8),(.ptr 9 0),(.ptr 10 0),(.ptr 11 0),a,a,a,a,a,a,a,h]),g,b,b,c,c,c,g,m,(.cells 1 true [(.full 12),a]),(.cells 1 true [a,a,a,(.ptr 9 0)]),v,b],[⟨.ret,[],⟨[(.tup [])],[(.cells 1 false [a,a,a,a,a,(.full 5),(.full 6),a,(.full 7),a,k,a,a,(.full 8),(.ptr 9 0),(.ptr 10 0),(.ptr 11 0),a,a,a,a,a,a,a,h]),b,b,b],[]⟩⟩],by exact u34 sN⟩
theorem ak0 :Rt ai8:=rq ((.n .no (.n .no (.n .no (.n .no (.n .no (.n .no (.n (.n .no (.n (.lp [14] ⟨.normal,[36],⟨[a],[b],[]⟩⟩ [⟨(.exit 0),[],⟨[],[b],[]⟩⟩] .no) .no)) .no)))))))) (.cons ad9 (.cons ie (.cons fe (.nil _)))) fun _=>by kernel_rfl
def oW :FSum:=⟨218,[d,j],[ag,c,c,g,g,m,ad,ab,v,b],[⟨.ret,[],⟨[(.tup [])],[ag,b],[]⟩⟩],by exact u31 oO⟩
theorem ud :Rt oW:=rq ((.n .no (.n (.dr [0,1,2,3,4,5,6,8,1009,7,10,9,11]) .no))) (.cons pH (.cons nN (.cons tG (.cons ie (.cons vM (.cons ak0 (.nil _))))))) fun _=>by kernel_rfl
def aj2 :FSum:=⟨164,[d,a],[ag,c,c,g,g,m,ad,ab,w,b],[⟨.ret,[],⟨[(.tup [])],[ag,w,b],[]⟩⟩],by exact u31 sR⟩
theorem ak6 :Rt aj2:=iy (ins:=[⟨216,gt aB 216 ⟨[lq,lm],[⟨217,gt aB 217 ⟨[tW,oW],[]⟩ .no⟩]⟩ .no⟩]) (at':= .no) (.cons pH (.nil _)) (bp.cons (cy (.cons jo (.cons jX (.nil _))) (bp.cons (cy (.cons fe (.cons ud (.nil _))) (bp.nil _)) (bp.nil _))) (bp.nil _)) fun _=>by kernel_rfl
def aa5 :FSum:=⟨90,[d,(.agg [a,a])],[ag,c,c,g,g,m,ad,ab,w,b],[⟨.ret,[],⟨[a],[ag,w,b],[]⟩⟩],by exact u32 rJ⟩
theorem ac3 :Rt aa5:=lC (fun _=>rfl)
def nM :FSum:=⟨181,[(.agg [a,a,a]),a],[],[q],by exact u4 ed⟩
theorem lu :Rt nM:=rq (.no) (.cons nP (.nil _)) fun _=>by kernel_rfl
def oI :FSum:=⟨180,[d,a],[(.cells 1 true [k,a]),c],[⟨.ret,[],⟨[(.tup [h,a])],[],[]⟩⟩],by exact u3 gw⟩
theorem mf :Rt oI:=iy (ins:=[⟨202,gt aB 202 ⟨[],[⟨219,gt aB 219 ⟨[kC],[]⟩ .no⟩]⟩ .no⟩]) (at':= .no) (.nil _) (bp.cons (cy (.nil _) (bp.cons (cy (.cons fc (.nil _)) (bp.nil _)) (bp.nil _))) (bp.nil _)) fun _=>by kernel_rfl
def am8 :FSum:=⟨96,[d],[(.cells 1 true [a,a,a,(.ptr 1 0)]),(.cells 1 true [(.full 2),a]),c],[⟨.ret,[],⟨[(.full 3)],[],[l]⟩⟩],by exact u5 jr⟩
theorem oY :Rt am8:=rq ((.n .no (.n .no (.n .no (.n (.n .no (.n (.lp [] ⟨.normal,[14,3],⟨[a,(.full 3)],[],[l]⟩⟩ [⟨(.exit 0),[3],⟨[(.full 3)],[],[l]⟩⟩] .no) .no)) .no))))) (.cons lu (.cons mf (.nil _))) fun _=>by kernel_rfl
def ai5 :FSum:=⟨29,[d],[aj,c,c,g,g,m,ad,ab,v,c],[⟨.ret,[],⟨[(.agg [a,a,(.full 10)])],[],[l]⟩⟩],by exact u30 sL⟩
theorem aj7 :Rt ai5:=rq (.no) (.cons oY (.nil _)) fun _=>by kernel_rfl
def aa4 :FSum:=⟨93,[d],[aj,c,c,g,g,m,ad,ab,v,c],[⟨.ret,[],⟨[(.agg [.nilf,(.fn 174 [d] []),(.fn 175 [d] []),(.fn 176 [d] []),(.fn 177 [d] []),(.fn 164 [d] []),(.fn 178 [d] []),(.fn 179 [d] [])])],[],[]⟩⟩],by exact u30 rI⟩
theorem ac2 :Rt aa4:=rq (.no) (.nil _) fun _=>by kernel_rfl
def yv :FSum:=⟨174,[d,a],[ag,c,c,g,g,m,ad,ab,v,b],[⟨.ret,[],⟨[(.tup [])],[ag,b],[]⟩⟩],by exact u31 pZ⟩
theorem yB :Rt yv:=rq ((.n .no (.n (.lp [0,9] ⟨.normal,[8],⟨[a],[ag,b],[]⟩⟩ [⟨(.exit 0),[],⟨[],[ag,b],[]⟩⟩] (.n .no (.n .no (.n (.n (.n .no (.n (.dr [0,1,2,3,4,5,6,7,8,9,10,11,13,14,15,16,17,18,19,1020,12,20,21,22,23,24,25,26,27]) .no)) .no) .no)))) .no))) (.cons fe (.cons nN (.cons bn9 (.cons ie (.nil _))))) fun _=>by kernel_rfl
def oJ :FSum:=⟨297,[(.agg [a,a,a]),a],[],[x],by exact u4 oH⟩
theorem sw :Rt oJ:=rq (.no) (.nil _) fun _=>by kernel_rfl
def aj3 :FSum:=⟨232,[d,a,a,j],[(.cells 1 true [a,a,a,(.ptr 1 0)]),(.cells 1 true [(.full 2),a]),b],[⟨.ret,[],⟨[a],[b],[]⟩⟩],by exact u8 sT⟩
theorem ak8 :Rt aj3:=iy (ins:=[⟨270,gt aB 270 ⟨[oJ,nM,oI],[⟨271,gt aB 271 ⟨[pX],[]⟩ (.n .no (.n (.n (.jn [] [] [⟨.normal,[8],⟨[p],[],[]⟩⟩] .no .no) .no) .no))⟩]⟩ .no⟩]) (at':= .no) (.nil _) (bp.cons (cy (.cons sw (.cons lu (.cons mf (.nil _)))) (bp.cons (cy (.cons jP (.nil _)) (bp.nil _)) (bp.nil _))) (bp.nil _)) fun _=>by kernel_rfl
def aa8 :FSum:=⟨175,[d,a],[aj,c,c,g,g,m,ad,ab,w,b],[⟨.ret,[],⟨[(.tup [])],[w,b],[]⟩⟩],by exact u31 rM⟩
theorem ac6 :Rt aa8:=rq (.no) (.cons jo (.cons fe (.cons ak8 (.nil _)))) fun _=>by kernel_rfl
def zd :FSum:=⟨233,[d,a],[(.cells 1 true [a,a,a,(.ptr 1 0)]),(.cells 1 true [(.full 2),a]),c],[⟨.ret,[],⟨[(.tup [a,(.full 3),a])],[],[b]⟩⟩],by exact u6 qZ⟩
theorem zl :Rt zd:=iy (ins:=[⟨270,gt aB 270 ⟨[oJ,nM,oI],[⟨272,gt aB 272 ⟨[wE],[]⟩ .no⟩]⟩ .no⟩]) (at':= .no) (.nil _) (bp.cons (cy (.cons sw (.cons lu (.cons mf (.nil _)))) (bp.cons (cy (.cons lr (.nil _)) (bp.nil _)) (bp.nil _))) (bp.nil _)) fun _=>by kernel_rfl
def yw :FSum:=⟨176,[d,a],[aj,c,c,g,g,m,ad,ab,v,b],[⟨.ret,[],⟨[(.tup [])],[b],[]⟩⟩],by exact u31 qa⟩
theorem yC :Rt yw:=rq (.no) (.cons zl (.cons ie (.nil _))) fun _=>by kernel_rfl
def am7 :FSum:=⟨234,[d,a],[(.cells 1 true [a,a,a,(.ptr 1 0)]),(.cells 1 true [(.full 2),a]),b],[⟨.ret,[],⟨[a],[b],[]⟩⟩],by exact u6 tT⟩
theorem ao6 :Rt am7:=iy (ins:=[⟨270,gt aB 270 ⟨[oJ,nM,oI],[⟨273,gt aB 273 ⟨[wJ,pX],[]⟩ .no⟩]⟩ .no⟩]) (at':= .no) (.nil _) (bp.cons (cy (.cons sw (.cons lu (.cons mf (.nil _)))) (bp.cons (cy (.cons nP (.cons jP (.nil _))) (bp.nil _)) (bp.nil _))) (bp.nil _)) fun _=>by kernel_rfl
def aj1 :FSum:=⟨177,[d,a],[aj,c,c,g,g,m,ad,ab,w,b],[⟨.ret,[],⟨[(.tup [])],[w,b],[]⟩⟩],by exact u31 sQ⟩
theorem ak3 :Rt aj1:=rq (.no) (.cons ao6 (.cons jX (.nil _))) fun _=>by kernel_rfl
def ai9 :FSum:=⟨220,[d,(.agg [a,k]),(.full 2),(.full 3),(.full 4)],[(.cells 1 false [a,a,a,a,a,(.full 5),(.full 6),a,k,a,(.full 7),a,a,(.full 8),(.ptr 9 0),(.ptr 10 0),(.ptr 11 0),a,a,a,a,a,a,a,h]),g,b,b,c,c,c,g,m,(.cells 1 true [(.full 12),a]),(.cells 1 true [a,a,a,(.ptr 9 0)]),v,b],[⟨.ret,[],⟨[(.tup [])],[(.cells 1 false [a,a,a,a,a,(.full 5),(.full 6),a,k,a,(.full 7),a,a,(.full 8),(.ptr 9 0),(.ptr 10 0),(.ptr 11 0),a,a,a,a,a,a,a,h]),b,b,b],[]⟩⟩],by exact u34 sO⟩
theorem ak1 :Rt ai9:=rq ((.n .no (.n .no (.n .no (.n .no (.n .no (.n .no (.n (.n .no (.n (.lp [14] ⟨.normal,[36],⟨[a],[b],[]⟩⟩ [⟨(.exit 0),[],⟨[],[b],[]⟩⟩] .no) .no)) .no)))))))) (.cons ad9 (.cons ie (.cons fe (.nil _)))) fun _=>by kernel_rfl
def oB :FSum:=⟨166,[d,k,(.full 2)],[(.cells 1 false [a,a,a,a,a,(.full 3),(.full 4),a,(.full 5),a,(.full 6),a,a,(.full 7),(.ptr 8 0),(.ptr 9 0),(.ptr 10 0),a,a,a,a,a,a,a,h]),b,c,c,c,g,g,m,(.cells 1 true [(.full 11),a]),(.cells 1 true [a,a,a,(.ptr 8 0)]),v,b],[⟨.ret,[],⟨[(.tup [])],[(.cells 1 false [a,a,a,a,a,(.full 3),(.full 4),a,(.full 5),a,(.full 6),a,a,(.full 7),(.ptr 8 0),(.ptr 9 0),(.ptr 10 0),a,a,a,a,a,a,a,h]),b,b],[]⟩⟩],by exact u32 oz⟩
theorem sZ :Rt oB:=rq (.no) (.cons fe (.cons vM (.cons ak1 (.nil _)))) fun _=>by kernel_rfl
def aj0 :FSum:=⟨178,[d,a],[ag,c,c,g,g,m,ad,ab,w,b],[⟨.ret,[],⟨[(.tup [])],[ag,w,b],[]⟩⟩],by exact u31 sP⟩
theorem ak2 :Rt aj0:=iy (ins:=[⟨216,gt aB 216 ⟨[lq,lm],[⟨235,gt aB 235 ⟨[nL,oW,oB],[]⟩ .no⟩]⟩ .no⟩]) (at':= .no) (.cons pH (.nil _)) (bp.cons (cy (.cons jo (.cons jX (.nil _))) (bp.cons (cy (.cons sj (.cons ud (.cons sZ (.nil _)))) (bp.nil _)) (bp.nil _))) (bp.nil _)) fun _=>by kernel_rfl
def yx :FSum:=⟨179,[d,a],[ag,c,c,g,g,m,ad,ab,w,b],[⟨.ret,[],⟨[(.tup [])],[ag,w,b],[]⟩⟩],by exact u31 qb⟩
theorem yD :Rt yx:=iy (ins:=[⟨216,gt aB 216 ⟨[lq,lm],[⟨236,gt aB 236 ⟨[nL,oB],[]⟩ .no⟩]⟩ .no⟩]) (at':= .no) (.cons pH (.nil _)) (bp.cons (cy (.cons jo (.cons jX (.nil _))) (bp.cons (cy (.cons sj (.cons sZ (.nil _))) (bp.nil _)) (bp.nil _))) (bp.nil _)) fun _=>by kernel_rfl
def av6 :FSum:=⟨26,[d,(.agg [a,a])],[ag,c,c,g,g,m,ad,ab,w,b],[⟨.ret,[],⟨[a],[ag,w,b],[]⟩⟩],by exact u32 ga⟩
theorem aw5 :Rt av6:=rq (.no) (.cons xJ (.cons ac3 (.cons aj7 (.cons ac9 (.cons ue (.cons ac2 (.cons yB (.cons sm (.cons ac6 (.cons yC (.cons ak3 (.cons ak6 (.cons ak2 (.cons yD (.nil _))))))))))))))) fun _=>by kernel_rfl
def yW :FSum:=⟨27,[d],[aj,c,c,g,g,m,ad,ab,v,c],[⟨.ret,[],⟨[(.tup [(.agg [h,(.full 10),(.full 11)]),a])],[],[b,b]⟩⟩],by exact u30 qS⟩
theorem ze :Rt yW:=rq (.no) (.cons fe (.nil _)) fun _=>by kernel_rfl
def zZ :FSum:=⟨58,[d],[aj,c,c,g,g,m,ad,ab,v,c],[⟨.ret,[],⟨[(.agg [a,a,a,a])],[],[]⟩⟩],by exact u30 rF⟩
theorem ab8 :Rt zZ:=rq (.no) (.nil _) fun _=>by kernel_rfl
def bw9 :FSum:=⟨11,[],[],[x],fun _=>nA⟩
theorem bB4 :Rt bw9:=rq ((.n .no (.n .no (.sz 13 (.n .no (.n .no (.n (.n .no (.n (.n .no (.n .no (.n .no (.n .no (.n .no (.n .no (.n .no (.n .no (.n .no .no))))))))) .no)) .no))) (.sz 4012 (.n .no (.n .no (.n (.n .no (.n (.n .no (.n .no (.n .no (.n .no (.n .no (.n .no (.n .no (.n .no (.n .no .no))))))))) .no)) .no))) (.n .no (.n .no (.n (.n .no (.n (.n .no (.n .no (.n .no (.n .no (.n .no (.n .no (.n .no (.n .no (.n .no .no))))))))) .no)) .no)))))))) (.cons aV8 (.cons bL8 (.cons aE4 (.cons aj6 (.cons bC5 (.cons an2 (.cons aw5 (.cons ze (.cons ab8 (.nil _)))))))))) fun _=>by kernel_rfl
def bn3 :FSum:=⟨136,[ac],[],[q],by exact u9 tC⟩
theorem bo8 :Rt bn3:=rq (.no) (.nil _) fun _=>by kernel_rfl
def bz9 :FSum:=⟨137,[ac],[],[q],by exact u9 vF⟩
theorem bD1 :Rt bz9:=rq (.no) (.cons wQ (.nil _)) fun _=>by kernel_rfl
def bz8 :FSum:=⟨138,[ac],[],[q],by exact u9 vE⟩
theorem bD0 :Rt bz8:=rq (.no) (.cons wQ (.nil _)) fun _=>by kernel_rfl
def bz7 :FSum:=⟨67,[ac],[],[⟨.ret,[],⟨[(.tup [(.agg [a,a,a,a]),a])],[],[]⟩⟩],by exact u9 pz⟩
theorem ad7 :Rt bz7:=rq ((.n .no (.n .no (.n (.dr [0,2,4,1,3,5,6,7,8]) (.jn [2] [] [⟨.normal,[],⟨[],[(.cells 1 false [a,a,a,a])],[]⟩⟩] .no (.n .no (.n (.n (.lp [2] ⟨.normal,[],⟨[],[(.cells 1 false [a,a,a,a])],[]⟩⟩ [⟨(.exit 0),[],⟨[],[(.cells 1 false [a,a,a,a])],[]⟩⟩] .no) .no) .no))))))) (.cons ay3 (.cons bo8 (.cons bD1 (.cons bD0 (.nil _))))) fun _=>by kernel_rfl
def bL0 :FSum:=⟨68,[a,a],[],[⟨.ret,[],⟨[(.agg [(.full 0),a])],[],[(.arr false ar)]⟩⟩],by exact u2 xV⟩
theorem bM2 :Rt bL0:=rq ((.n .no (.n .no (.n (.n .no (.n (.lp [0,1] ⟨.normal,[6],⟨[a],[(.cells 1 false [NS,i]),(.cells 1 false [(.full 2),a])],[(.arr false ar)]⟩⟩ [⟨(.exit 0),[],⟨[],[(.cells 1 false [NS,i]),(.cells 1 false [(.full 2),a])],[(.arr false ar)]⟩⟩] .no) .no)) .no)))) (.nil _) fun _=>by kernel_rfl
def bL1 :FSum:=⟨13,[ac],[],[⟨.ret,[],⟨[(.tup [(.agg [a,j,j,a,o,a,o,a,a,a,o,a,o,a,j,a,a,a,a,a,i,a,j,(.full 0),a,NS,k,(.full 2),(.cint .u64 0),i,i,i,i,a]),a])],[],[(.arr false ar),b,b]⟩⟩],by exact u9 nk⟩
theorem bM3 :Rt bL1:=rq ((.n .no (.n .no (.n .no (.n (.dr [0,1,2,3,4,5,6,7,8,10,11,12,9,13,14,15,16]) .no))))) (.cons ad7 (.cons bM2 (.nil _))) fun _=>by kernel_rfl
def vd :FSum:=⟨145,[d,h],[ba,c,c,g,g,m],[x],by exact u23 eu⟩
theorem ax3 :Rt vd:=rq (.no) (.nil _) fun _=>by kernel_rfl
def aD7 :FSum:=⟨146,[j],[],[⟨.ret,[],⟨[(.tup [.nilp,a])],[],[]⟩⟩,⟨.ret,[],⟨[(.tup [d,i])],[],[(.cells 1 false [k,i]),b]⟩⟩],vo⟩
theorem bB1 :Rt aD7:=rq (.no) (.cons ax7 (.cons fc (.nil _))) fun _=>by kernel_rfl
def tU :FSum:=⟨63,[.nilp,a],[],[⟨.ret,[],⟨[(.tup [i,(.cint .i64 1)])],[],[]⟩⟩],tM⟩
theorem an1 :Rt tU:=rq (.no) (.nil _) fun _=>by kernel_rfl
def xD :FSum:=⟨64,[d],[ba,c,c,g,g,m],[x],by exact u22 lH⟩
theorem pS :Rt xD:=rq (.no) (.nil _) fun _=>by kernel_rfl
def bn6 :FSum:=⟨204,[.nilp,a,a,a],[],[⟨.ret,[],⟨[(.tup [.nilp,(.cint .i64 1)])],[],[]⟩⟩],by exact u3 ax5⟩
theorem bp1 :Rt bn6:=rq (.no) (.nil _) fun _=>by kernel_rfl
def sW :FSum:=⟨147,[d],[ba,c,c,g,g,m],[x],by exact u22 sS⟩
theorem ak7 :Rt sW:=rq (.no) (.cons pS (.cons bp1 (.nil _))) fun _=>by kernel_rfl
def az4 :FSum:=⟨205,[.nilp],[],[⟨.ret,[],⟨[i],[],[]⟩⟩],fun _=>qJ⟩
theorem wS :Rt az4:=rq ((.n .no (.n .no (.n (.n .no (.n (.lp [] ⟨.normal,[9,3],⟨[i,i],[],[]⟩⟩ [⟨(.exit 0),[3],⟨[i],[],[]⟩⟩] .no) .no)) .no)))) (.cons qO (.nil _)) fun _=>by kernel_rfl
def vc :FSum:=⟨148,[d],[ba,c,c,g,g,m],[q],by exact u22 vb⟩
theorem ax2 :Rt vc:=rq (.no) (.cons pS (.cons wS (.nil _))) fun _=>by kernel_rfl
def xE :FSum:=⟨64,[d],[(.cells 1 true [a,a,a,a,a,k,(.full 2),a,(.full 3),a,(.full 4),a,a,(.full 5),af, .nilp, .nilp,a,a,a,a,a,a,a,h]),c,c,g,g,m,(.cells 1 true [(.full 7),a]),c],[x],by exact u24 gj⟩
theorem pT :Rt xE:=rq (.no) (.nil _) fun _=>by kernel_rfl
def aV4 :FSum:=⟨204,[d,a,a,a],[(.cells 1 true [k,a]),c],[⟨.ret,[],⟨[(.tup [.nilp,a])],[],[]⟩⟩,⟨.ret,[],⟨[(.tup [(.ptr 2 0),i])],[],[(.cells 1 false [a,a,a,d])]⟩⟩],by exact u5 lP⟩
theorem aW2 :Rt aV4:=rq ((.n .no (.n .no (.n .no (.n .no (.n (.n .no (.n (.lp [] ⟨.normal,[41],⟨[a],[],[]⟩⟩ [⟨.ret,[8,9],⟨[.nilp,(.cint .i64 2)],[],[]⟩⟩,⟨(.exit 1),[],⟨[],[],[]⟩⟩] .no) .no)) .no)))))) (.cons yd (.cons nP (.cons lr (.cons lu (.cons mf (.nil _)))))) fun _=>by kernel_rfl
def ai6 :FSum:=⟨29,[d],[(.cells 1 true [a,a,a,a,a,k,(.full 2),a,(.full 3),a,(.full 4),a,a,(.full 5),af, .nilp, .nilp,a,a,a,a,a,a,a,h]),c,c,g,g,m,(.cells 1 true [(.full 7),a]),c],[⟨.ret,[],⟨[(.agg [a,a,NS])],[],[]⟩⟩],by exact u24 sM⟩
theorem aj8 :Rt ai6:=rq (.no) (.cons qO (.nil _)) fun _=>by kernel_rfl
def ai7 :FSum:=⟨29,[d],[(.cells 1 true [a,a,a,a,a,k,(.full 2),a,(.full 3),a,(.full 4),a,a,(.full 5),af,(.ptr 7 0), .nilp,a,a,a,a,a,a,a,h]),c,c,g,g,m,aa,ab,c],[⟨.ret,[],⟨[(.agg [a,a,(.full 9)])],[],[l]⟩⟩],by exact u27 ot⟩
theorem aj9 :Rt ai7:=rq (.no) (.cons oY (.nil _)) fun _=>by kernel_rfl
def rb :FSum:=⟨147,[d],[(.cells 1 false [a,a,a,a,a,k,(.full 2),a,(.full 3),a,(.full 4),a,a,(.full 5),af, .nilp, .nilp,a,a,a,a,a,a,a,h]),c,c,g,g,m,(.cells 1 true [(.full 7),a]),c],[⟨.ret,[],⟨[p],[(.cells 1 false [a,a,a,a,a,k,(.full 2),a,(.full 3),a,(.full 4),a,a,(.full 5),af, .nilp, .nilp,a,a,a,a,a,a,a,h])],[]⟩⟩,⟨.ret,[],⟨[p],[(.cells 1 false [a,a,a,a,a,k,(.full 2),a,(.full 3),a,(.full 4),a,a,(.full 5),af,(.ptr 8 0), .nilp,a,a,a,a,a,a,a,h])],[(.cells 1 false [a,a,a,af])]⟩⟩],by exact u24 ku⟩
theorem zf :Rt rb:=rq (.no) (.cons pT (.cons aW2 (.cons aj8 (.cons ac9 (.cons aj9 (.nil _)))))) fun _=>by kernel_rfl
def sU :FSum:=⟨148,[d],[(.cells 1 true [a,a,a,a,a,k,(.full 2),a,(.full 3),a,(.full 4),a,a,(.full 5),af, .nilp, .nilp,a,a,a,a,a,a,a,h]),c,c,g,g,m,(.cells 1 true [(.full 7),a]),c],[q],by exact u24 ou⟩
theorem ak4 :Rt sU:=rq (.no) (.cons pT (.cons wS (.nil _))) fun _=>by kernel_rfl
def xF :FSum:=⟨64,[d],[(.cells 1 true [a,a,a,a,a,k,(.full 2),a,(.full 3),a,(.full 4),a,a,(.full 5),af,(.ptr 7 0), .nilp,a,a,a,a,a,a,a,h]),c,c,g,g,m,aa,ab,c],[x],by exact u27 lI⟩
theorem xK :Rt xF:=rq (.no) (.nil _) fun _=>by kernel_rfl
def am9 :FSum:=⟨205,[d],[(.cells 1 true [a,a,a,(.ptr 1 0)]),(.cells 1 true [(.full 2),a]),c],[q],by exact u5 oU⟩
theorem ao7 :Rt am9:=rq ((.n .no (.n .no (.n (.n .no (.n (.lp [] ⟨.normal,[9,3],⟨[a,a],[],[]⟩⟩ [⟨(.exit 0),[3],⟨[a],[],[]⟩⟩] .no) .no)) .no)))) (.cons oY (.nil _)) fun _=>by kernel_rfl
def sV :FSum:=⟨148,[d],[(.cells 1 true [a,a,a,a,a,k,(.full 2),a,(.full 3),a,(.full 4),a,a,(.full 5),af,(.ptr 7 0), .nilp,a,a,a,a,a,a,a,h]),c,c,g,g,m,aa,ab,c],[q],by exact u27 ov⟩
theorem ak5 :Rt sV:=rq (.no) (.cons xK (.cons ao7 (.nil _))) fun _=>by kernel_rfl
def bl3 :FSum:=⟨16,[ac,j,az],[],[⟨.ret,[],⟨[(.tup [.nilp,a])],[],[]⟩⟩,⟨.ret,[],⟨[(.tup [d,i])],[],[ah,b,b,(.arr false ae),(.arr false ae),l,(.cells 1 false [(.full 8),a]),w,b]⟩⟩,⟨.ret,[],⟨[(.tup [d,i])],[],[ag,b,b,(.arr false ae),(.arr false ae),l,(.cells 1 false [(.full 9),a]),(.cells 1 false [a,a,a,af]),w,b]⟩⟩],by exact u26 jc⟩
theorem bn8 :Rt bl3:=iy (ins:=[⟨76,gt aB 76 ⟨[vd,aD7,tU,sW,vc,aZ1,wF,rb,sU,sV],[]⟩ (.n .no (.n .no (.n .no (.n .no (.n .no (.n .no (.sz 6011 (.jn [2] [] [⟨.ret,[6],⟨[p],[(.cells 1 false [a,a,a,a,a,(.full 3),(.full 4),a,(.full 5),a,(.full 6),a,a,(.full 7),(.ptr 9 0), .nilp, .nilp,a,a,a,a,a,a,a,h])],[]⟩⟩,⟨.ret,[6],⟨[p],[(.cells 1 false [a,a,a,a,a,(.full 3),(.full 4),a,(.full 5),a,(.full 6),a,a,(.full 7),(.ptr 9 0),(.ptr 11 0), .nilp,a,a,a,a,a,a,a,h])],[(.cells 1 false [a,a,a,(.ptr 9 0)])]⟩⟩,⟨.normal,[],⟨[],[(.cells 1 false [a,a,a,a,a,(.full 3),(.full 4),a,(.full 5),a,(.full 6),a,a,(.full 7),(.ptr 9 0), .nilp, .nilp,a,a,a,a,a,a,a,h])],[]⟩⟩,⟨.normal,[],⟨[],[(.cells 1 false [a,a,a,a,a,(.full 3),(.full 4),a,(.full 5),a,(.full 6),a,a,(.full 7),(.ptr 9 0),(.ptr 11 0), .nilp,a,a,a,a,a,a,a,h])],[(.cells 1 false [a,a,a,(.ptr 9 0)])]⟩⟩] .no .no) .no)))))))⟩]) (at':= .no) (.cons ax8 (.nil _)) (bp.cons (cy (.cons ax3 (.cons bB1 (.cons an1 (.cons ak7 (.cons ax2 (.cons bb0 (.cons qM (.cons zf (.cons ak4 (.cons ak5 (.nil _))))))))))) (bp.nil _)) (bp.nil _)) fun _=>by kernel_rfl
def bA2 :FSum:=⟨17,[an],[],[⟨.ret,[],⟨[bc],[],[]⟩⟩],by exact u34 pE⟩
theorem bD3 :Rt bA2:=rq (.no) (.nil _) fun _=>by kernel_rfl
def bz5 :FSum:=⟨206,[a],[],[⟨.ret,[],⟨[(.tup [a,a])],[],[]⟩⟩],vD⟩
theorem bC9 :Rt bz5:=rq (.no) (.nil _) fun _=>by kernel_rfl
def bn1 :FSum:=⟨149,[(.agg [a,a])],[],[x],by exact u2 qf⟩
theorem ay2 :Rt bn1:=rq (.no) (.cons bC9 (.nil _)) fun _=>by kernel_rfl
def ba4 :FSum:=⟨161,[j,j,j],[],[⟨.ret,[],⟨[(.full 0)],[],[b]⟩⟩],by exact u3 lh⟩
theorem sr :Rt ba4:=rq ((.n .no (.n .no (.n (.n .no (.n (.lp [] ⟨.normal,[8,7],⟨[a,k],[],[b]⟩⟩ [⟨(.exit 0),[7],⟨[k],[],[b]⟩⟩] .no) .no)) (.n (.n .no (.n (.lp [] ⟨.normal,[9,7],⟨[a,(.full 2)],[],[b]⟩⟩ [⟨(.exit 2),[7],⟨[(.full 2)],[],[b]⟩⟩] .no) .no)) (.n (.n .no (.n (.lp [] ⟨.normal,[10,7],⟨[a,(.full 3)],[],[b]⟩⟩ [⟨(.exit 4),[7],⟨[(.full 3)],[],[b]⟩⟩] .no) .no)) .no)))))) (.nil _) fun _=>by kernel_rfl
def bm8 :FSum:=⟨152,[(.agg [a,o,a,o,a,j]),a,j],[],[⟨.ret,[],⟨[(.full 0)],[],[b]⟩⟩],by exact u8 my⟩
theorem yG :Rt bm8:=rq (.no) (.cons sr (.nil _)) fun _=>by kernel_rfl
def aV1 :FSum:=⟨209,[y],[],[q],by exact u2 qx⟩
theorem aV9 :Rt aV1:=rq ((.n .no (.n (.n .no (.n (.lp [] ⟨.normal,[3],⟨[a],[],[]⟩⟩ [⟨.ret,[2],⟨[a],[],[]⟩⟩,⟨(.exit 0),[],⟨[],[],[]⟩⟩] .no) .no)) .no))) (.cons aE7 (.nil _)) fun _=>by kernel_rfl
def bm5 :FSum:=⟨259,[o],[],[⟨.ret,[],⟨[(.tup [(.full 0),a])],[],[l]⟩⟩],tz⟩
theorem bo4 :Rt bm5:=rq ((.n .no (.n .no (.n .no (.n .no (.n (.n .no (.n (.lp [] ⟨.normal,[9,8],⟨[a,(.full 2)],[],[l]⟩⟩ [⟨(.exit 0),[8],⟨[(.full 2)],[],[l]⟩⟩] (.n .no (.n (.n (.n .no (.jn [] [] [⟨.normal,[10],⟨[a],[],[]⟩⟩] .no .no)) .no) .no))) .no)) .no)))))) (.cons wP (.cons tE (.cons ay1 (.cons sq (.nil _))))) fun _=>by kernel_rfl
def by3 :FSum:=⟨210,[o],[],[⟨.ret,[],⟨[(.full 0)],[],[(.arr false ae)]⟩⟩],vx⟩
theorem bC1 :Rt by3:=rq ((.n .no (.n .no (.n .no (.n .no (.n (.n .no (.n (.lp [] ⟨.normal,[8,7],⟨[a,(.full 3)],[],[(.arr false ae)]⟩⟩ [⟨(.exit 0),[7],⟨[(.full 3)],[],[(.arr false ae)]⟩⟩] (.n .no (.n (.n (.jn [] [] [⟨(.exit 1),[8],⟨[a],[],[]⟩⟩,⟨.normal,[8],⟨[a],[],[]⟩⟩] .no .no) .no) .no))) .no)) .no)))))) (.cons tE (.cons bo4 (.nil _))) fun _=>by kernel_rfl
def ba1 (n:Nat):FSum:=⟨211,[o,(.leaf (.list r)),a,a],[],[⟨.ret,[],⟨[(.tup [o,a])],[],[]⟩⟩],fun t=>(iq n) t.1 t.2.1 t.2.2.1 t.2.2.2⟩
theorem zj : ∀n,vi aB (ba1 n)
 |0=>lC (fun t=>rfl)
 |n+1=>rq ((.n .no (.n .no (.n .no (.n (.n .no (.n (.lp [] ⟨.normal,[12,11,10],⟨[a,a,k],[],[(.arr false ae)]⟩⟩ [⟨(.exit 0),[10,11],⟨[k,a],[],[(.arr false ae)]⟩⟩] (.n .no (.n (.n (.n .no (.n .no (.n .no (.n (.n .no (.n (.lp [] ⟨.normal,[15,10,11],⟨[h,(.full 2),a],[],[(.arr false ae)]⟩⟩ [⟨(.exit 2),[11,10],⟨[a,(.full 2)],[],[(.arr false ae)]⟩⟩] .no) .no)) .no)))) .no) .no))) .no)) .no))))) (.cons (zj n) (.nil _)) fun _=>by kernel_rfl
def by2 :FSum:=⟨211,[o,(.leaf (.list r)),a,a],[],[⟨.ret,[],⟨[(.tup [o,a])],[],[]⟩⟩],by exact u4 zR⟩
theorem bC0 :Rt by2:=(zj 400)
def ba2 :FSum:=⟨158,[y],[],[⟨.ret,[],⟨[(.tup [o,a])],[],[]⟩⟩],by exact u2 kq⟩
theorem oX :Rt ba2:=rq (.no) (.cons aV9 (.cons bC1 (.cons tE (.cons bC0 (.nil _))))) fun _=>by kernel_rfl
def bm6 :FSum:=⟨159,[a,j],[],[⟨.ret,[],⟨[(.full 0)],[],[b]⟩⟩],by exact u2 kU⟩
theorem tF :Rt bm6:=rq ((.n .no (.n .no (.n (.n .no (.n (.lp [] ⟨.normal,[6,5],⟨[a,k],[],[b]⟩⟩ [⟨(.exit 0),[5],⟨[k],[],[b]⟩⟩] (.n .no (.n (.n (.n .no (.jn [] [] [⟨.normal,[7],⟨[h],[],[]⟩⟩] .no .no)) .no) .no))) .no)) .no)))) (.nil _) fun _=>by kernel_rfl
def bm7 :FSum:=⟨289,[y,j,j],[],[⟨.ret,[],⟨[(.tup [o,a])],[],[]⟩⟩],by exact u4 yr⟩
theorem bo5 :Rt bm7:=rq (.no) (.cons oX (.nil _)) fun _=>by kernel_rfl
def by5 :FSum:=⟨290,[j],[],[⟨.ret,[],⟨[(.full 0)],[],[b]⟩⟩],nD⟩
theorem aE9 :Rt by5:=rq ((.n .no (.n .no (.n (.n .no (.n (.lp [] ⟨.normal,[4,3],⟨[a,k],[],[b]⟩⟩ [⟨(.exit 0),[3],⟨[k],[],[b]⟩⟩] .no) .no)) .no)))) (.nil _) fun _=>by kernel_rfl
def aZ6 :FSum:=⟨243,[h],[],[⟨.ret,[],⟨[(.agg [a,a,a,a,a,a,a,a])],[],[]⟩⟩],ko⟩
theorem wN :Rt aZ6:=rq ((.n .no (.n .no (.n (.n .no (.n (.lp [1] ⟨.normal,[4,0],⟨[a,h],[ap],[]⟩⟩ [⟨(.exit 0),[],⟨[],[ap],[]⟩⟩] .no) .no)) .no)))) (.nil _) fun _=>by kernel_rfl
def aZ7 :FSum:=⟨244,[(.agg [a,a,a,a,a,a,a,a])],[],[⟨.ret,[],⟨[h],[],[]⟩⟩],by exact u8 lf⟩
theorem wO :Rt aZ7:=rq ((.n .no (.n .no (.n .no (.n .no (.n (.n .no (.n (.lp [] ⟨.normal,[6,5,3,4],⟨[a,a,h,h],[],[]⟩⟩ [⟨(.exit 0),[3],⟨[h],[],[]⟩⟩] .no) .no)) .no)))))) (.nil _) fun _=>by kernel_rfl
def bx3 :FSum:=⟨189,[h,h],[],[⟨.ret,[],⟨[h],[],[]⟩⟩],by exact u2 lV⟩
theorem ad5 :Rt bx3:=rq ((.n .no (.n .no (.n .no (.n (.n .no (.n (.lp [0] ⟨.normal,[7],⟨[a],[ap],[]⟩⟩ [⟨(.exit 0),[],⟨[],[ap],[]⟩⟩] .no) .no)) .no))))) (.cons wN (.cons wO (.nil _))) fun _=>by kernel_rfl
def bK8 :FSum:=⟨260,[h],[],[⟨.ret,[],⟨[h],[],[]⟩⟩],qY⟩
theorem aQ7 :Rt bK8:=rq ((.n .no (.n .no (.n (.n .no (.n (.lp [0] ⟨.normal,[4],⟨[a],[ap],[]⟩⟩ [⟨(.exit 0),[],⟨[],[ap],[]⟩⟩] .no) .no)) .no)))) (.cons wN (.cons wO (.nil _))) fun _=>by kernel_rfl
def bm0 :FSum:=⟨190,[h,h],[],[⟨.ret,[],⟨[h],[],[]⟩⟩],by exact u2 oi⟩
theorem ax9 :Rt bm0:=rq ((.n .no (.n .no (.n .no (.n .no (.n (.n .no (.n (.lp [2] ⟨.normal,[8],⟨[a],[ap],[]⟩⟩ [⟨(.exit 0),[],⟨[],[ap],[]⟩⟩] (.n .no (.n (.n (.n .no (.n (.lp [2] ⟨.normal,[9],⟨[a],[ap],[]⟩⟩ [⟨(.exit 2),[],⟨[],[ap],[]⟩⟩] .no) .no)) .no) .no))) .no)) .no)))))) (.cons wN (.cons wO (.nil _))) fun _=>by kernel_rfl
def bm1 :FSum:=⟨212,[am,h,h],[],[⟨.ret,[],⟨[h],[],[]⟩⟩],by exact u7 qe⟩
theorem ay0 :Rt bm1:=rq (.no) (.cons ad5 (.cons aQ7 (.cons ax9 (.nil _)))) fun _=>by kernel_rfl
def ba3 :FSum:=⟨257,[y,j,j],[],[⟨.ret,[],⟨[(.tup [(.full 0),k,a,a])],[],[b,b]⟩⟩],by exact u4 rX⟩
theorem bb7 :Rt ba3:=rq ((.n .no (.n .no (.n .no (.n .no (.n .no (.n (.n .no (.n (.lp [1,2] ⟨.normal,[14],⟨[a],[b,b],[]⟩⟩ [⟨(.exit 0),[],⟨[],[b,b],[]⟩⟩] .no) .no)) .no))))))) (.cons bo5 (.cons aE9 (.cons ay0 (.nil _)))) fun _=>by kernel_rfl
def aK5 :FSum:=⟨291,[am,h,h],[],[⟨.ret,[],⟨[(.tup [h,h])],[],[]⟩⟩],by exact u7 pm⟩
theorem aL0 :Rt aK5:=rq (.no) (.cons aQ7 (.nil _)) fun _=>by kernel_rfl
def by6 :FSum:=⟨258,[y,j,j,j],[],[⟨.ret,[],⟨[(.tup [(.full 0),k,a])],[],[b,b]⟩⟩],by exact u5 vy⟩
theorem bC3 :Rt by6:=rq ((.n .no (.n .no (.n .no (.n .no (.n .no (.n .no (.n .no (.n (.n .no (.n (.lp [1,2] ⟨.normal,[15],⟨[a],[b,b],[]⟩⟩ [⟨(.exit 0),[],⟨[],[b,b],[]⟩⟩] (.n .no (.n (.n (.n .no (.n .no (.n .no (.n .no (.n .no (.n .no (.jn [2] [] [⟨.normal,[],⟨[],[b],[]⟩⟩] .no .no))))))) .no) .no))) .no)) .no))))))))) (.cons oX (.cons aE9 (.cons aL0 (.cons sq (.cons ax9 (.cons ad5 (.nil _))))))) fun _=>by kernel_rfl
def by7 :FSum:=⟨208,[y,j,j],[],[⟨.ret,[],⟨[(.tup [(.full 0),a])],[],[b]⟩⟩],by exact u4 rY⟩
theorem aF0 :Rt by7:=rq ((.n .no (.n .no (.n .no (.n .no (.n (.dr [0,1,2,3,5,6,1007,4,7,8,9,10,11,12,13,14,15,16,17]) .no)))))) (.cons oX (.cons tF (.cons bb7 (.cons bC3 (.nil _))))) fun _=>by kernel_rfl
def aK9 :FSum:=⟨157,[(.agg [a,o,a,o,a,j]),a,j,j],[],[⟨.ret,[],⟨[(.tup [j,j,a])],[],[]⟩⟩],by exact u9 pw⟩
theorem aL2 :Rt aK9:=rq (.no) (.cons yG (.cons aF0 (.nil _))) fun _=>by kernel_rfl
def bL3 :FSum:=⟨156,[j,j],[],[⟨.ret,[],⟨[(.full 0)],[],[b]⟩⟩],by exact u2 tS⟩
theorem aR0 :Rt bL3:=rq ((.n .no (.n .no (.n (.n .no (.n (.lp [] ⟨.normal,[6,5],⟨[a,k],[],[b]⟩⟩ [⟨(.exit 0),[5],⟨[k],[],[b]⟩⟩] .no) .no)) .no)))) (.cons ad5 (.nil _)) fun _=>by kernel_rfl
def bA5 :FSum:=⟨85,[an,a,j],[],[⟨.ret,[],⟨[(.agg [a,j,j,a,o,a,o,a,a,a,o,a,o,a,j,a,a,a,a,a,a,a,j,(.leaf ak),a,(.leaf aw),j,(.full 0),h,a,a,a,a,a])],[],[b]⟩⟩],by exact u36 kP⟩
theorem aF4 :Rt bA5:=rq (.no) (.cons aL2 (.cons aR0 (.nil _))) fun _=>by kernel_rfl
def aK7 :FSum:=⟨160,[o,j],[],[⟨.ret,[],⟨[(.full 0)],[],[b]⟩⟩],by exact u2 mV⟩
theorem zk :Rt aK7:=rq ((.n .no (.n .no (.n (.n .no (.n (.lp [0] ⟨.normal,[6],⟨[a],[b],[]⟩⟩ [⟨(.exit 0),[],⟨[],[b],[]⟩⟩] .no) .no)) .no)))) (.cons tF (.cons ay0 (.nil _))) fun _=>by kernel_rfl
def by4 :FSum:=⟨207,[y,j,a],[],[⟨.ret,[],⟨[(.tup [(.full 0),a])],[],[b]⟩⟩],by exact u4 zS⟩
theorem bC2 :Rt by4:=rq ((.n .no (.n .no (.n .no (.n .no (.jn [] [] [⟨.normal,[2],⟨[a],[],[]⟩⟩] .no .no)))))) (.cons oX (.cons tF (.cons zk (.nil _)))) fun _=>by kernel_rfl
def bK9 :FSum:=⟨151,[y,j],[],[⟨.ret,[],⟨[(.tup [(.full 0),a])],[],[b]⟩⟩],by exact u3 tR⟩
theorem aQ8 :Rt bK9:=rq (.no) (.cons bC2 (.nil _)) fun _=>by kernel_rfl
def by9 :FSum:=⟨80,[(.agg [a,o,a,o,a,j]),a,j],[],[⟨.ret,[],⟨[(.tup [(.full 0),a])],[],[b]⟩⟩],by exact u8 nE⟩
theorem aF1 :Rt by9:=rq (.no) (.cons yG (.cons aQ8 (.nil _))) fun _=>by kernel_rfl
def bz3 :FSum:=⟨141,[(.agg [(.leaf ak),a])],[],[q],by exact u2 vC⟩
theorem bC8 :Rt bz3:=rq ((.n .no (.n .no (.n (.n .no (.n (.lp [] ⟨.normal,[4,3],⟨[a,a],[],[]⟩⟩ [⟨(.exit 0),[3],⟨[a],[],[]⟩⟩] .no) .no)) .no)))) (.nil _) fun _=>by kernel_rfl
def bA1 :FSum:=⟨72,[an],[],[q],by exact u34 iu⟩
theorem ad8 :Rt bA1:=rq (.no) (.cons bC8 (.nil _)) fun _=>by kernel_rfl
def by8 :FSum:=⟨154,[(.agg [a,o,a,o,a,j]),j],[],[⟨.ret,[],⟨[(.tup [h,a])],[],[]⟩⟩],by exact u7 vz⟩
theorem bC4 :Rt by8:=rq (.no) (.cons sr (.cons aQ8 (.nil _))) fun _=>by kernel_rfl
def aK8 :FSum:=⟨155,[(.agg [a,o,a,o,a,j]),j],[],[⟨.ret,[],⟨[(.tup [j,j,a])],[],[]⟩⟩],by exact u7 pv⟩
theorem aL1 :Rt aK8:=rq ((.n .no (.n .no (.n (.dr [0,1,2,3,4,1006,5,6,7,8,9,10,11,12]) .no)))) (.cons sr (.cons aF0 (.nil _))) fun _=>by kernel_rfl
def bL2 :FSum:=⟨84,[an,j],[],[⟨.ret,[],⟨[(.agg [a,j,j,a,o,a,o,a,a,a,o,a,o,a,j,a,a,a,a,a,a,a,j,(.leaf ak),a,(.leaf aw),j,(.full 0),h,a,a,a,a,a])],[],[b]⟩⟩],by exact u35 lZ⟩
theorem aQ9 :Rt bL2:=rq (.no) (.cons bC4 (.cons aL1 (.cons aR0 (.nil _)))) fun _=>by kernel_rfl
def bn5 :FSum:=⟨77,[an,(.agg [a,a])],[],[⟨.ret,[],⟨[bc],[],[]⟩⟩],by exact u36 tD⟩
theorem bp0 :Rt bn5:=rq ((.n .no (.jn [0,1,2] [] [⟨.ret,[5],⟨[(.cint .i64 2)],[av,(.cells 1 false [a,a]),av],[]⟩⟩,⟨.normal,[],⟨[],[av,(.cells 1 false [a,a]),bb],[]⟩⟩] .no .no))) (.cons ay2 (.cons aF4 (.cons aF1 (.cons ad8 (.cons wQ (.cons aQ9 (.nil _))))))) fun _=>by kernel_rfl
def bz2 :FSum:=⟨139,[(.agg [(.leaf ak),a])],[],[⟨.ret,[],⟨[(.full 0)],[],[l]⟩⟩],by exact u2 vB⟩
theorem bC7 :Rt bz2:=rq ((.n .no (.n .no (.n (.n .no (.n (.lp [] ⟨.normal,[4,3],⟨[a,(.full 2)],[],[l]⟩⟩ [⟨(.exit 0),[3],⟨[(.full 2)],[],[l]⟩⟩] .no) .no)) .no)))) (.nil _) fun _=>by kernel_rfl
def bA3 :FSum:=⟨69,[an],[],[⟨.ret,[],⟨[(.agg [a,a,(.full 0)])],[],[l]⟩⟩],by exact u34 vG⟩
theorem bD4 :Rt bA3:=rq (.no) (.cons bC7 (.nil _)) fun _=>by kernel_rfl
def bz6 :FSum:=⟨150,[(.agg [a,a,(.leaf (.list r))])],[],[⟨.ret,[],⟨[(.agg [a,a,(.full 0)])],[],[l]⟩⟩],by exact u3 sd⟩
theorem aF3 :Rt bz6:=rq ((.n .no (.n .no (.n (.n .no (.n (.lp [2] ⟨.normal,[4],⟨[a],[(.cells 1 false [a,a,(.full 3)])],[l]⟩⟩ [⟨(.exit 0),[],⟨[],[(.cells 1 false [a,a,(.full 3)])],[l]⟩⟩] .no) .no)) .no)))) (.nil _) fun _=>by kernel_rfl
def bX2 :FSum:=⟨78,[a,(.agg [a,a,(.leaf (.list r))])],[],[⟨.ret,[],⟨[(.tup [(.agg [a,a,a,(.full 0),i]),a])],[],[l]⟩⟩],by exact u4 zU⟩
theorem bX8 :Rt bX2:=rq ((.n .no (.n .no (.n (.n .no (.n (.lp [1] ⟨.normal,[6],⟨[a],[(.cells 1 false [i,i,i,NS,i])],[]⟩⟩ [⟨.ret,[5],⟨[(.cint .i64 2)],[(.cells 1 false [i,i,i,NS,i])],[]⟩⟩,⟨(.exit 0),[],⟨[],[(.cells 1 false [i,i,i,NS,i])],[]⟩⟩] .no) .no)) .no)))) (.cons aF3 (.nil _)) fun _=>by kernel_rfl
def bX3 :FSum:=⟨79,[(.agg [a,a,a,(.leaf (.list r)),a]),(.agg [a,a])],[],[⟨.ret,[],⟨[(.tup [(.agg [a,a,a,(.leaf (.list r)),a]),a])],[],[]⟩⟩],by exact u7 zV⟩
theorem bX9 :Rt bX3:=rq ((.n .no (.n .no (.jn [] [] [⟨.normal,[6],⟨[p],[],[]⟩⟩] .no (.jn [0,1,2] [] [⟨.ret,[5],⟨[(.cint .i64 2)],[(.cells 1 false [a,a,a,(.leaf (.list r)),a]),(.cells 1 false [a,a]),(.cells 1 false [a,a,a,(.leaf (.list r)),a])],[]⟩⟩,⟨.normal,[],⟨[],[(.cells 1 false [a,a,a,(.leaf (.list r)),a]),(.cells 1 false [a,a]),(.cells 1 false [i,i,i,NS,i])],[]⟩⟩] .no (.n (.dr [0,1,2,3,5,6,4,7,8,9]) (.n .no (.jn [] [] [⟨.normal,[8],⟨[a],[],[]⟩⟩] .no (.n (.n .no (.n (.n .no (.n .no (.n .no (.n .no (.jn [] [] [⟨.normal,[115],⟨[p],[],[]⟩⟩] .no .no))))) .no)) .no))))))))) (.cons ay2 (.cons aF3 (.nil _))) fun _=>by kernel_rfl
def bz4 :FSum:=⟨153,[(.agg [(.leaf ak),a]),a,(.agg [a,j])],[],[⟨.ret,[],⟨[(.agg [(.full 0),a])],[],[(.arr false ar)]⟩⟩],by exact u5 sa⟩
theorem aF2 :Rt bz4:=rq ((.n .no (.n .no (.n (.n .no (.n (.lp [0,1,2,3] ⟨.normal,[8],⟨[a],[(.cells 1 false [(.leaf ak),a]),(.cells 1 false [a,j]),(.cells 1 false [NS,i]),(.cells 1 false [(.full 4),a])],[(.arr false ar)]⟩⟩ [⟨(.exit 0),[],⟨[],[(.cells 1 false [(.leaf ak),a]),(.cells 1 false [a,j]),(.cells 1 false [NS,i]),(.cells 1 false [(.full 4),a])],[(.arr false ar)]⟩⟩] .no) .no)) .no)))) (.nil _) fun _=>by kernel_rfl
def bm9 :FSum:=⟨81,[(.agg [(.leaf ak),a]),a,a,j],[],[⟨.ret,[],⟨[(.tup [(.agg [(.leaf ak),a]),a])],[],[]⟩⟩],by exact u5 tA⟩
theorem bo6 :Rt bm9:=rq (.no) (.cons aF2 (.nil _)) fun _=>by kernel_rfl
def aV2 :FSum:=⟨82,[(.agg [(.leaf ak),a]),a],[],[⟨.ret,[],⟨[(.tup [a,j,a])],[],[]⟩⟩],by exact u3 qz⟩
theorem aW0 :Rt aV2:=rq (.no) (.nil _) fun _=>by kernel_rfl
def bz1 :FSum:=⟨83,[(.agg [(.leaf ak),a]),a],[],[⟨.ret,[],⟨[(.tup [(.agg [(.leaf ak),a]),a])],[],[]⟩⟩],by exact u3 vA⟩
theorem bC6 :Rt bz1:=rq (.no) (.cons aF2 (.nil _)) fun _=>by kernel_rfl
def bX5 :FSum:=⟨18,[an,(.agg [a,a])],[],[⟨.ret,[],⟨[bc],[],[]⟩⟩],by exact u36 oT⟩
theorem bY0 :Rt bX5:=rq ((.n .no (.n .no (.n (.dr [0,1,2,3,4,5,6,7,8,9,10]) (.n .no (.n .no (.n .no (.n .no (.n .no (.jn [0,1,2,3,5,6] [] [⟨.normal,[10],⟨[a],[av,(.cells 1 false [a,a]),bb,l,(.cells 1 false [a,a,a,(.full 4),i]),(.cells 1 false [a,a,a,(.leaf (.list r)),a])],[]⟩⟩] (.n .no (.n (.n .no (.n (.n .no (.n (.lp [0,1,2,3,5,6] ⟨.normal,[14],⟨[a],[av,(.cells 1 false [a,a]),bb,l,(.cells 1 false [a,a,a,(.full 4),i]),(.cells 1 false [a,a,a,(.leaf (.list r)),a])],[]⟩⟩ [⟨(.exit 1),[],⟨[],[av,(.cells 1 false [a,a]),bb,l,(.cells 1 false [a,a,a,(.full 4),i]),(.cells 1 false [a,a,a,(.leaf (.list r)),a])],[]⟩⟩] .no) .no)) .no)) .no)) .no)))))))))) (.cons bp0 (.cons bD4 (.cons bX8 (.cons bX9 (.cons wQ (.cons ad8 (.cons aF1 (.cons bo6 (.cons aW0 (.cons bC6 (.cons aQ9 (.cons aF4 (.nil _))))))))))))) fun _=>by kernel_rfl
def ba5 :FSum:=⟨86,[ac],[],[⟨.ret,[],⟨[(.tup [(.full 0),a])],[],[l]⟩⟩],by exact u9 mW⟩
theorem ao4 :Rt ba5:=rq ((.n .no (.n .no (.n .no (.n .no (.n .no (.n (.n .no (.n (.lp [] ⟨.normal,[8,7],⟨[a,(.full 4)],[],[l]⟩⟩ [⟨(.exit 0),[7],⟨[(.full 4)],[],[l]⟩⟩] .no) .no)) .no))))))) (.cons ad7 (.nil _)) fun _=>by kernel_rfl
def bn0 :FSum:=⟨87,[(.agg [(.leaf ak),a])],[],[⟨.ret,[],⟨[(.full 0)],[],[b]⟩⟩],by exact u2 oj⟩
theorem bo7 :Rt bn0:=rq ((.n .no (.n .no (.n (.n .no (.n (.lp [] ⟨.normal,[4,3],⟨[a,(.full 2)],[],[b]⟩⟩ [⟨(.exit 0),[3],⟨[(.full 2)],[],[b]⟩⟩] (.n .no (.n (.n (.n .no (.n .no (.n (.lp [] ⟨.normal,[5,3],⟨[a,(.full 5)],[],[b]⟩⟩ [⟨(.exit 2),[3],⟨[(.full 5)],[],[b]⟩⟩] (.n .no (.n (.n (.n .no (.jn [] [] [⟨.normal,[6],⟨[h],[],[]⟩⟩] .no .no)) .no) .no))) .no))) .no) .no))) .no)) .no)))) (.nil _) fun _=>by kernel_rfl
def bA4 :FSum:=⟨88,[an,a],[],[⟨.ret,[],⟨[(.full 0)],[],[b]⟩⟩],by exact u35 vH⟩
theorem bD5 :Rt bA4:=rq ((.n .no (.n .no (.n .no (.n .no (.n (.n .no (.n (.lp [] ⟨.normal,[9,8,7],⟨[a,(.full 4),(.full 5)],[],[b,b]⟩⟩ [⟨(.exit 0),[8,7],⟨[(.full 4),(.full 5)],[],[b,b]⟩⟩] .no) .no)) .no)))))) (.cons oX (.cons yG (.cons tF (.cons zk (.cons sr (.nil _)))))) fun _=>by kernel_rfl
def bn4 :FSum:=⟨19,[an],[],[⟨.ret,[],⟨[(.full 0)],[],[b]⟩⟩],by exact u34 ol⟩
theorem bo9 :Rt bn4:=rq ((.n .no (.n .no (.n .no (.n .no (.n .no (.n (.n .no (.n (.lp [2] ⟨.normal,[8],⟨[a],[b],[]⟩⟩ [⟨(.exit 0),[],⟨[],[b],[]⟩⟩] (.n .no (.n (.n (.n .no (.n (.lp [2] ⟨.normal,[9],⟨[a],[b],[]⟩⟩ [⟨(.exit 2),[],⟨[],[b],[]⟩⟩] .no) .no)) .no) .no))) .no)) (.n (.n .no (.n (.lp [2] ⟨.normal,[10],⟨[a],[b],[]⟩⟩ [⟨(.exit 4),[],⟨[],[b],[]⟩⟩] (.n .no (.n (.n (.n .no (.n .no (.n (.lp [2] ⟨.normal,[12],⟨[a],[b],[]⟩⟩ [⟨(.exit 6),[],⟨[],[b],[]⟩⟩] .no) .no))) .no) .no))) .no)) .no)))))))) (.cons ao4 (.cons bo7 (.cons bD5 (.nil _)))) fun _=>by kernel_rfl
def aV3 :FSum:=⟨20,[an],[],[⟨.ret,[],⟨[(.agg [h,h,h,h,h,h,h,h,h,h,h,h,(.cint .u64 0),(.cint .u64 0),(.cint .u64 0),(.cint .u64 0)])],[],[]⟩⟩],by exact u34 lO⟩
theorem aW1 :Rt aV3:=rq (.no) (.cons ad8 (.nil _)) fun _=>by kernel_rfl
def bA0 :FSum:=⟨21,[ac,j,az],[],[x],by exact u26 pA⟩
theorem bD2 :Rt bA0:=rq ((.n .no (.n .no (.n .no (.jn [] [] [⟨.ret,[6],⟨[p],[],[]⟩⟩,⟨.normal,[],⟨[],[],[]⟩⟩] .no (.n .no (.jn [] [] [⟨.normal,[11],⟨[a],[],[]⟩⟩] .no (.n (.n .no (.n (.lp [] ⟨.normal,[12,11],⟨[a,a],[],[]⟩⟩ [⟨.ret,[6],⟨[p],[],[]⟩⟩,⟨(.exit 0),[11],⟨[a],[],[]⟩⟩] .no) .no)) .no)))))))) (.cons ad7 (.cons ao4 (.nil _))) fun _=>by kernel_rfl
def av5 :FSum:=⟨89,[d],[(.cells 1 true [k,a]),c],[⟨.ret,[],⟨[(.full 2)],[],[b]⟩⟩],by exact u2 kF⟩
theorem ve :Rt av5:=rq (.no) (.cons fc (.nil _)) fun _=>by kernel_rfl
def al6 :FSum:=⟨23,[d],[ai,c,c,g,g,m,aa,v,c],[⟨.ret,[],⟨[(.full 9)],[],[b]⟩⟩],by exact u27 lQ⟩
theorem an3 :Rt al6:=rq (.no) (.cons ve (.nil _)) fun _=>by kernel_rfl
def bx4 :FSum:=⟨22,[j,j],[],[x],by exact u2 nC⟩
theorem bB5 :Rt bx4:=rq ((.n .no (.n .no (.n (.n .no (.n (.lp [] ⟨.normal,[5],⟨[a],[],[]⟩⟩ [⟨.ret,[4],⟨[p],[],[]⟩⟩,⟨(.exit 0),[],⟨[],[],[]⟩⟩] .no) .no)) .no)))) (.nil _) fun _=>by kernel_rfl
def az1 :FSum:=⟨140,[d],[v],[q],by exact u3 lb⟩
theorem wL :Rt az1:=rq (.no) (.nil _) fun _=>by kernel_rfl
def av7 :FSum:=⟨71,[d],[ai,c,c,g,g,m,aa,v,c],[q],by exact u27 pV⟩
theorem aw6 :Rt av7:=rq (.no) (.cons wL (.nil _)) fun _=>by kernel_rfl
def az2 :FSum:=⟨142,[d],[v],[q],by exact u3 ld⟩
theorem wM :Rt az2:=rq (.no) (.nil _) fun _=>by kernel_rfl
def av8 :FSum:=⟨73,[d],[ai,c,c,g,g,m,aa,v,c],[q],by exact u27 pW⟩
theorem aw7 :Rt av8:=rq (.no) (.cons wM (.nil _)) fun _=>by kernel_rfl
def aa1 :FSum:=⟨24,[d],[ai,c,c,g,g,m,aa,v,c],[⟨.ret,[],⟨[az],[],[]⟩⟩],by exact u27 kM⟩
theorem ac0 :Rt aa1:=rq ((.n .no (.n .no (.n .no (.n .no (.n (.n .no (.n (.lp [10] ⟨.normal,[50],⟨[a],[ax],[]⟩⟩ [⟨(.exit 0),[],⟨[],[ax],[]⟩⟩] .no) .no)) .no)))))) (.cons aw6 (.cons aw7 (.nil _))) fun _=>by kernel_rfl
def aa0 :FSum:=⟨23,[d],[aj,c,c,g,g,m,ad,ab,v,c],[⟨.ret,[],⟨[(.full 10)],[],[b]⟩⟩],by exact u30 kL⟩
theorem ab9 :Rt aa0:=rq (.no) (.cons ve (.nil _)) fun _=>by kernel_rfl
def ai2 :FSum:=⟨71,[d],[aj,c,c,g,g,m,ad,ab,v,c],[q],by exact u30 oo⟩
theorem aj4 :Rt ai2:=rq (.no) (.cons wL (.nil _)) fun _=>by kernel_rfl
def ai3 :FSum:=⟨73,[d],[aj,c,c,g,g,m,ad,ab,v,c],[q],by exact u30 oq⟩
theorem aj5 :Rt ai3:=rq (.no) (.cons wM (.nil _)) fun _=>by kernel_rfl
def yu :FSum:=⟨24,[d],[aj,c,c,g,g,m,ad,ab,v,c],[⟨.ret,[],⟨[az],[],[]⟩⟩],by exact u30 jZ⟩
theorem yA :Rt yu:=rq ((.n .no (.n .no (.n .no (.n .no (.n (.n .no (.n (.lp [11] ⟨.normal,[50],⟨[a],[ax],[]⟩⟩ [⟨(.exit 0),[],⟨[],[ax],[]⟩⟩] .no) .no)) .no)))))) (.cons aj4 (.cons aj5 (.nil _))) fun _=>by kernel_rfl
def qK :FSum:=⟨4,[ac,(.leaf (.list (.pair r r))),a,h,a,h],[],[x],by exact u14 gl⟩
theorem aA1 :Rt qK:=rq ((.n .no (.n (.jn [] [] [⟨.normal,[33],⟨[p],[],[]⟩⟩] .no .no) (.n .no (.n .no (.n (.n .no (.n (.lp [0,4] ⟨.normal,[17],⟨[a],[(.cells 1 false [a,j,j,a,o,a,o,a,a]),av],[]⟩⟩ [⟨(.exit 0),[],⟨[],[(.cells 1 false [a,j,j,a,o,a,o,a,a]),av],[]⟩⟩] .no) .no)) (.n (.dr [0,2,1,3,4,5,6]) (.jn [5] [] [⟨.normal,[],⟨[],[b],[]⟩⟩] .no (.jn [6] [] [⟨.normal,[],⟨[],[ax],[]⟩⟩] .no (.n .no (.n .no (.sz 17 (.n .no (.n .no (.n (.n .no (.n (.sz 19 (.lp [] ⟨.normal,[23],⟨[a],[],[]⟩⟩ [⟨.ret,[12],⟨[p],[],[]⟩⟩,⟨(.exit 2),[],⟨[],[],[]⟩⟩] .no) (.lp [] ⟨.normal,[23],⟨[a],[],[]⟩⟩ [⟨.ret,[12],⟨[p],[],[]⟩⟩,⟨(.exit 2),[],⟨[],[],[]⟩⟩] .no)) .no)) .no))) (.sz 8016 (.n .no (.n .no (.n (.n .no (.n (.sz 19 (.lp [] ⟨.normal,[23],⟨[a],[],[]⟩⟩ [⟨.ret,[12],⟨[p],[],[]⟩⟩,⟨(.exit 2),[],⟨[],[],[]⟩⟩] .no) (.lp [] ⟨.normal,[23],⟨[a],[],[]⟩⟩ [⟨.ret,[12],⟨[p],[],[]⟩⟩,⟨(.exit 2),[],⟨[],[],[]⟩⟩] .no)) .no)) .no))) (.n .no (.n .no (.n (.n .no (.n (.sz 19 (.lp [] ⟨.normal,[23],⟨[a],[],[]⟩⟩ [⟨.ret,[12],⟨[p],[],[]⟩⟩,⟨(.exit 2),[],⟨[],[],[]⟩⟩] .no) (.lp [] ⟨.normal,[23],⟨[a],[],[]⟩⟩ [⟨.ret,[12],⟨[p],[],[]⟩⟩,⟨(.exit 2),[],⟨[],[],[]⟩⟩] .no)) .no)) .no)))))))))))))))) (.cons bo1 (.cons bB4 (.cons bM3 (.cons bn8 (.cons bD3 (.cons bY0 (.cons bo9 (.cons aW1 (.cons bD2 (.cons an3 (.cons bB5 (.cons ac0 (.cons ab9 (.cons yA (.nil _))))))))))))))) fun _=>by kernel_rfl
end
end Go.V
