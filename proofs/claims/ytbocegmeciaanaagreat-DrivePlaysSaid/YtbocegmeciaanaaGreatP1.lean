/- A part of the proofs of this claim: what functions of the program answer on an abstract machine, and plain laws. No condition. -/
import Derived.Test.YtbocegmeciaanaaGreatD2
import Derived.Test.YtbocegmeciaanaaGreatRows
import Derived.KernelRfl
set_option linter.unusedVariables false
set_option linter.unusedSimpArgs false
set_option linter.unusedSectionVars false
namespace Go.V
open Go.Ab Go.Proofs
section
open Tryz renaming prog → aB
abbrev u2 {a b c:Type}(f:a→b→c)(t:a×b):c:=f t.1 t.2
abbrev u3 {x0 x1 x2 x3:Type}(f:x0→x1→x2→x3)(t:x0×x1×x2):x3:=u2 (f t.1) t.2
abbrev u4 {x0 x1 x2 x3 x4:Type}(f:x0→x1→x2→x3→x4)(t:x0×x1×x2×x3):x4:=u3 (f t.1) t.2
abbrev u5 {x0 x1 x2 x3 x4 x5:Type}(f:x0→x1→x2→x3→x4→x5)(t:x0×x1×x2×x3×x4):x5:=u4 (f t.1) t.2
abbrev u6 {x0 x1 x2 x3 x4 x5 x6:Type}(f:x0→x1→x2→x3→x4→x5→x6)(t:x0×x1×x2×x3×x4×x5):x6:=u5 (f t.1) t.2
abbrev u7 {x0 x1 x2 x3 x4 x5 x6 x7:Type}(f:x0→x1→x2→x3→x4→x5→x6→x7)(t:x0×x1×x2×x3×x4×x5×x6):x7:=u6 (f t.1) t.2
abbrev u8 {x0 x1 x2 x3 x4 x5 x6 x7 x8:Type}(f:x0→x1→x2→x3→x4→x5→x6→x7→x8)(t:x0×x1×x2×x3×x4×x5×x6×x7):x8:=u7 (f t.1) t.2
abbrev u9 {x0 x1 x2 x3 x4 x5 x6 x7 x8 x9:Type}(f:x0→x1→x2→x3→x4→x5→x6→x7→x8→x9)(t:x0×x1×x2×x3×x4×x5×x6×x7×x8):x9:=u8 (f t.1) t.2
abbrev u10 {x0 x1 x2 x3 x4 x5 x6 x7 x8 x9 x10:Type}(f:x0→x1→x2→x3→x4→x5→x6→x7→x8→x9→x10)(t:x0×x1×x2×x3×x4×x5×x6×x7×x8×x9):x10:=u9 (f t.1) t.2
abbrev u11 {x0 x1 x2 x3 x4 x5 x6 x7 x8 x9 x10 x11:Type}(f:x0→x1→x2→x3→x4→x5→x6→x7→x8→x9→x10→x11)(t:x0×x1×x2×x3×x4×x5×x6×x7×x8×x9×x10):x11:=u10 (f t.1) t.2
abbrev u12 {x0 x1 x2 x3 x4 x5 x6 x7 x8 x9 x10 x11 x12:Type}(f:x0→x1→x2→x3→x4→x5→x6→x7→x8→x9→x10→x11→x12)(t:x0×x1×x2×x3×x4×x5×x6×x7×x8×x9×x10×x11):x12:=u11 (f t.1) t.2
abbrev u13 {x0 x1 x2 x3 x4 x5 x6 x7 x8 x9 x10 x11 x12 x13:Type}(f:x0→x1→x2→x3→x4→x5→x6→x7→x8→x9→x10→x11→x12→x13)(t:x0×x1×x2×x3×x4×x5×x6×x7×x8×x9×x10×x11×x12):x13:=u12 (f t.1) t.2
abbrev u14 {x0 x1 x2 x3 x4 x5 x6 x7 x8 x9 x10 x11 x12 x13 x14:Type}(f:x0→x1→x2→x3→x4→x5→x6→x7→x8→x9→x10→x11→x12→x13→x14)(t:x0×x1×x2×x3×x4×x5×x6×x7×x8×x9×x10×x11×x12×x13):x14:=u13 (f t.1) t.2
abbrev u15 {x0 x1 x2 x3 x4 x5 x6 x7 x8 x9 x10 x11 x12 x13 x14 x15:Type}(f:x0→x1→x2→x3→x4→x5→x6→x7→x8→x9→x10→x11→x12→x13→x14→x15)(t:x0×x1×x2×x3×x4×x5×x6×x7×x8×x9×x10×x11×x12×x13×x14):x15:=u14 (f t.1) t.2
abbrev u16 {x0 x1 x2 x3 x4 x5 x6 x7 x8 x9 x10 x11 x12 x13 x14 x15 x16:Type}(f:x0→x1→x2→x3→x4→x5→x6→x7→x8→x9→x10→x11→x12→x13→x14→x15→x16)(t:x0×x1×x2×x3×x4×x5×x6×x7×x8×x9×x10×x11×x12×x13×x14×x15):x16:=u15 (f t.1) t.2
abbrev u17 {x0 x1 x2 x3 x4 x5 x6 x7 x8 x9 x10 x11 x12 x13 x14 x15 x16 x17:Type}(f:x0→x1→x2→x3→x4→x5→x6→x7→x8→x9→x10→x11→x12→x13→x14→x15→x16→x17)(t:x0×x1×x2×x3×x4×x5×x6×x7×x8×x9×x10×x11×x12×x13×x14×x15×x16):x17:=u16 (f t.1) t.2
abbrev u18 {x0 x1 x2 x3 x4 x5 x6 x7 x8 x9 x10 x11 x12 x13 x14 x15 x16 x17 x18:Type}(f:x0→x1→x2→x3→x4→x5→x6→x7→x8→x9→x10→x11→x12→x13→x14→x15→x16→x17→x18)(t:x0×x1×x2×x3×x4×x5×x6×x7×x8×x9×x10×x11×x12×x13×x14×x15×x16×x17):x18:=u17 (f t.1) t.2
abbrev u19 {x0 x1 x2 x3 x4 x5 x6 x7 x8 x9 x10 x11 x12 x13 x14 x15 x16 x17 x18 x19:Type}(f:x0→x1→x2→x3→x4→x5→x6→x7→x8→x9→x10→x11→x12→x13→x14→x15→x16→x17→x18→x19)(t:x0×x1×x2×x3×x4×x5×x6×x7×x8×x9×x10×x11×x12×x13×x14×x15×x16×x17×x18):x19:=u18 (f t.1) t.2
abbrev u20 {x0 x1 x2 x3 x4 x5 x6 x7 x8 x9 x10 x11 x12 x13 x14 x15 x16 x17 x18 x19 x20:Type}(f:x0→x1→x2→x3→x4→x5→x6→x7→x8→x9→x10→x11→x12→x13→x14→x15→x16→x17→x18→x19→x20)(t:x0×x1×x2×x3×x4×x5×x6×x7×x8×x9×x10×x11×x12×x13×x14×x15×x16×x17×x18×x19):x20:=u19 (f t.1) t.2
abbrev u21 {x0 x1 x2 x3 x4 x5 x6 x7 x8 x9 x10 x11 x12 x13 x14 x15 x16 x17 x18 x19 x20 x21:Type}(f:x0→x1→x2→x3→x4→x5→x6→x7→x8→x9→x10→x11→x12→x13→x14→x15→x16→x17→x18→x19→x20→x21)(t:x0×x1×x2×x3×x4×x5×x6×x7×x8×x9×x10×x11×x12×x13×x14×x15×x16×x17×x18×x19×x20):x21:=u20 (f t.1) t.2
abbrev u22 {x0 x1 x2 x3 x4 x5 x6 x7 x8 x9 x10 x11 x12 x13 x14 x15 x16 x17 x18 x19 x20 x21 x22:Type}(f:x0→x1→x2→x3→x4→x5→x6→x7→x8→x9→x10→x11→x12→x13→x14→x15→x16→x17→x18→x19→x20→x21→x22)(t:x0×x1×x2×x3×x4×x5×x6×x7×x8×x9×x10×x11×x12×x13×x14×x15×x16×x17×x18×x19×x20×x21):x22:=u21 (f t.1) t.2
abbrev u23 {x0 x1 x2 x3 x4 x5 x6 x7 x8 x9 x10 x11 x12 x13 x14 x15 x16 x17 x18 x19 x20 x21 x22 x23:Type}(f:x0→x1→x2→x3→x4→x5→x6→x7→x8→x9→x10→x11→x12→x13→x14→x15→x16→x17→x18→x19→x20→x21→x22→x23)(t:x0×x1×x2×x3×x4×x5×x6×x7×x8×x9×x10×x11×x12×x13×x14×x15×x16×x17×x18×x19×x20×x21×x22):x23:=u22 (f t.1) t.2
abbrev u24 {x0 x1 x2 x3 x4 x5 x6 x7 x8 x9 x10 x11 x12 x13 x14 x15 x16 x17 x18 x19 x20 x21 x22 x23 x24:Type}(f:x0→x1→x2→x3→x4→x5→x6→x7→x8→x9→x10→x11→x12→x13→x14→x15→x16→x17→x18→x19→x20→x21→x22→x23→x24)(t:x0×x1×x2×x3×x4×x5×x6×x7×x8×x9×x10×x11×x12×x13×x14×x15×x16×x17×x18×x19×x20×x21×x22×x23):x24:=u23 (f t.1) t.2
abbrev u25 {x0 x1 x2 x3 x4 x5 x6 x7 x8 x9 x10 x11 x12 x13 x14 x15 x16 x17 x18 x19 x20 x21 x22 x23 x24 x25:Type}(f:x0→x1→x2→x3→x4→x5→x6→x7→x8→x9→x10→x11→x12→x13→x14→x15→x16→x17→x18→x19→x20→x21→x22→x23→x24→x25)(t:x0×x1×x2×x3×x4×x5×x6×x7×x8×x9×x10×x11×x12×x13×x14×x15×x16×x17×x18×x19×x20×x21×x22×x23×x24):x25:=u24 (f t.1) t.2
abbrev u26 {x0 x1 x2 x3 x4 x5 x6 x7 x8 x9 x10 x11 x12 x13 x14 x15 x16 x17 x18 x19 x20 x21 x22 x23 x24 x25 x26:Type}(f:x0→x1→x2→x3→x4→x5→x6→x7→x8→x9→x10→x11→x12→x13→x14→x15→x16→x17→x18→x19→x20→x21→x22→x23→x24→x25→x26)(t:x0×x1×x2×x3×x4×x5×x6×x7×x8×x9×x10×x11×x12×x13×x14×x15×x16×x17×x18×x19×x20×x21×x22×x23×x24×x25):x26:=u25 (f t.1) t.2
abbrev u27 {x0 x1 x2 x3 x4 x5 x6 x7 x8 x9 x10 x11 x12 x13 x14 x15 x16 x17 x18 x19 x20 x21 x22 x23 x24 x25 x26 x27:Type}(f:x0→x1→x2→x3→x4→x5→x6→x7→x8→x9→x10→x11→x12→x13→x14→x15→x16→x17→x18→x19→x20→x21→x22→x23→x24→x25→x26→x27)(t:x0×x1×x2×x3×x4×x5×x6×x7×x8×x9×x10×x11×x12×x13×x14×x15×x16×x17×x18×x19×x20×x21×x22×x23×x24×x25×x26):x27:=u26 (f t.1) t.2
abbrev u28 {x0 x1 x2 x3 x4 x5 x6 x7 x8 x9 x10 x11 x12 x13 x14 x15 x16 x17 x18 x19 x20 x21 x22 x23 x24 x25 x26 x27 x28:Type}(f:x0→x1→x2→x3→x4→x5→x6→x7→x8→x9→x10→x11→x12→x13→x14→x15→x16→x17→x18→x19→x20→x21→x22→x23→x24→x25→x26→x27→x28)(t:x0×x1×x2×x3×x4×x5×x6×x7×x8×x9×x10×x11×x12×x13×x14×x15×x16×x17×x18×x19×x20×x21×x22×x23×x24×x25×x26×x27):x28:=u27 (f t.1) t.2
abbrev u29 {x0 x1 x2 x3 x4 x5 x6 x7 x8 x9 x10 x11 x12 x13 x14 x15 x16 x17 x18 x19 x20 x21 x22 x23 x24 x25 x26 x27 x28 x29:Type}(f:x0→x1→x2→x3→x4→x5→x6→x7→x8→x9→x10→x11→x12→x13→x14→x15→x16→x17→x18→x19→x20→x21→x22→x23→x24→x25→x26→x27→x28→x29)(t:x0×x1×x2×x3×x4×x5×x6×x7×x8×x9×x10×x11×x12×x13×x14×x15×x16×x17×x18×x19×x20×x21×x22×x23×x24×x25×x26×x27×x28):x29:=u28 (f t.1) t.2
abbrev u30 {x0 x1 x2 x3 x4 x5 x6 x7 x8 x9 x10 x11 x12 x13 x14 x15 x16 x17 x18 x19 x20 x21 x22 x23 x24 x25 x26 x27 x28 x29 x30:Type}(f:x0→x1→x2→x3→x4→x5→x6→x7→x8→x9→x10→x11→x12→x13→x14→x15→x16→x17→x18→x19→x20→x21→x22→x23→x24→x25→x26→x27→x28→x29→x30)(t:x0×x1×x2×x3×x4×x5×x6×x7×x8×x9×x10×x11×x12×x13×x14×x15×x16×x17×x18×x19×x20×x21×x22×x23×x24×x25×x26×x27×x28×x29):x30:=u29 (f t.1) t.2
abbrev u31 {x0 x1 x2 x3 x4 x5 x6 x7 x8 x9 x10 x11 x12 x13 x14 x15 x16 x17 x18 x19 x20 x21 x22 x23 x24 x25 x26 x27 x28 x29 x30 x31:Type}(f:x0→x1→x2→x3→x4→x5→x6→x7→x8→x9→x10→x11→x12→x13→x14→x15→x16→x17→x18→x19→x20→x21→x22→x23→x24→x25→x26→x27→x28→x29→x30→x31)(t:x0×x1×x2×x3×x4×x5×x6×x7×x8×x9×x10×x11×x12×x13×x14×x15×x16×x17×x18×x19×x20×x21×x22×x23×x24×x25×x26×x27×x28×x29×x30):x31:=u30 (f t.1) t.2
abbrev u32 {x0 x1 x2 x3 x4 x5 x6 x7 x8 x9 x10 x11 x12 x13 x14 x15 x16 x17 x18 x19 x20 x21 x22 x23 x24 x25 x26 x27 x28 x29 x30 x31 x32:Type}(f:x0→x1→x2→x3→x4→x5→x6→x7→x8→x9→x10→x11→x12→x13→x14→x15→x16→x17→x18→x19→x20→x21→x22→x23→x24→x25→x26→x27→x28→x29→x30→x31→x32)(t:x0×x1×x2×x3×x4×x5×x6×x7×x8×x9×x10×x11×x12×x13×x14×x15×x16×x17×x18×x19×x20×x21×x22×x23×x24×x25×x26×x27×x28×x29×x30×x31):x32:=u31 (f t.1) t.2
abbrev u33 {x0 x1 x2 x3 x4 x5 x6 x7 x8 x9 x10 x11 x12 x13 x14 x15 x16 x17 x18 x19 x20 x21 x22 x23 x24 x25 x26 x27 x28 x29 x30 x31 x32 x33:Type}(f:x0→x1→x2→x3→x4→x5→x6→x7→x8→x9→x10→x11→x12→x13→x14→x15→x16→x17→x18→x19→x20→x21→x22→x23→x24→x25→x26→x27→x28→x29→x30→x31→x32→x33)(t:x0×x1×x2×x3×x4×x5×x6×x7×x8×x9×x10×x11×x12×x13×x14×x15×x16×x17×x18×x19×x20×x21×x22×x23×x24×x25×x26×x27×x28×x29×x30×x31×x32):x33:=u32 (f t.1) t.2
abbrev u34 {x0 x1 x2 x3 x4 x5 x6 x7 x8 x9 x10 x11 x12 x13 x14 x15 x16 x17 x18 x19 x20 x21 x22 x23 x24 x25 x26 x27 x28 x29 x30 x31 x32 x33 x34:Type}(f:x0→x1→x2→x3→x4→x5→x6→x7→x8→x9→x10→x11→x12→x13→x14→x15→x16→x17→x18→x19→x20→x21→x22→x23→x24→x25→x26→x27→x28→x29→x30→x31→x32→x33→x34)(t:x0×x1×x2×x3×x4×x5×x6×x7×x8×x9×x10×x11×x12×x13×x14×x15×x16×x17×x18×x19×x20×x21×x22×x23×x24×x25×x26×x27×x28×x29×x30×x31×x32×x33):x34:=u33 (f t.1) t.2
abbrev u35 {x0 x1 x2 x3 x4 x5 x6 x7 x8 x9 x10 x11 x12 x13 x14 x15 x16 x17 x18 x19 x20 x21 x22 x23 x24 x25 x26 x27 x28 x29 x30 x31 x32 x33 x34 x35:Type}(f:x0→x1→x2→x3→x4→x5→x6→x7→x8→x9→x10→x11→x12→x13→x14→x15→x16→x17→x18→x19→x20→x21→x22→x23→x24→x25→x26→x27→x28→x29→x30→x31→x32→x33→x34→x35)(t:x0×x1×x2×x3×x4×x5×x6×x7×x8×x9×x10×x11×x12×x13×x14×x15×x16×x17×x18×x19×x20×x21×x22×x23×x24×x25×x26×x27×x28×x29×x30×x31×x32×x33×x34):x35:=u34 (f t.1) t.2
abbrev u36 {x0 x1 x2 x3 x4 x5 x6 x7 x8 x9 x10 x11 x12 x13 x14 x15 x16 x17 x18 x19 x20 x21 x22 x23 x24 x25 x26 x27 x28 x29 x30 x31 x32 x33 x34 x35 x36:Type}(f:x0→x1→x2→x3→x4→x5→x6→x7→x8→x9→x10→x11→x12→x13→x14→x15→x16→x17→x18→x19→x20→x21→x22→x23→x24→x25→x26→x27→x28→x29→x30→x31→x32→x33→x34→x35→x36)(t:x0×x1×x2×x3×x4×x5×x6×x7×x8×x9×x10×x11×x12×x13×x14×x15×x16×x17×x18×x19×x20×x21×x22×x23×x24×x25×x26×x27×x28×x29×x30×x31×x32×x33×x34×x35):x36:=u35 (f t.1) t.2
abbrev u37 {x0 x1 x2 x3 x4 x5 x6 x7 x8 x9 x10 x11 x12 x13 x14 x15 x16 x17 x18 x19 x20 x21 x22 x23 x24 x25 x26 x27 x28 x29 x30 x31 x32 x33 x34 x35 x36 x37:Type}(f:x0→x1→x2→x3→x4→x5→x6→x7→x8→x9→x10→x11→x12→x13→x14→x15→x16→x17→x18→x19→x20→x21→x22→x23→x24→x25→x26→x27→x28→x29→x30→x31→x32→x33→x34→x35→x36→x37)(t:x0×x1×x2×x3×x4×x5×x6×x7×x8×x9×x10×x11×x12×x13×x14×x15×x16×x17×x18×x19×x20×x21×x22×x23×x24×x25×x26×x27×x28×x29×x30×x31×x32×x33×x34×x35×x36):x37:=u36 (f t.1) t.2
abbrev u38 {x0 x1 x2 x3 x4 x5 x6 x7 x8 x9 x10 x11 x12 x13 x14 x15 x16 x17 x18 x19 x20 x21 x22 x23 x24 x25 x26 x27 x28 x29 x30 x31 x32 x33 x34 x35 x36 x37 x38:Type}(f:x0→x1→x2→x3→x4→x5→x6→x7→x8→x9→x10→x11→x12→x13→x14→x15→x16→x17→x18→x19→x20→x21→x22→x23→x24→x25→x26→x27→x28→x29→x30→x31→x32→x33→x34→x35→x36→x37→x38)(t:x0×x1×x2×x3×x4×x5×x6×x7×x8×x9×x10×x11×x12×x13×x14×x15×x16×x17×x18×x19×x20×x21×x22×x23×x24×x25×x26×x27×x28×x29×x30×x31×x32×x33×x34×x35×x36×x37):x38:=u37 (f t.1) t.2
abbrev u39 {x0 x1 x2 x3 x4 x5 x6 x7 x8 x9 x10 x11 x12 x13 x14 x15 x16 x17 x18 x19 x20 x21 x22 x23 x24 x25 x26 x27 x28 x29 x30 x31 x32 x33 x34 x35 x36 x37 x38 x39:Type}(f:x0→x1→x2→x3→x4→x5→x6→x7→x8→x9→x10→x11→x12→x13→x14→x15→x16→x17→x18→x19→x20→x21→x22→x23→x24→x25→x26→x27→x28→x29→x30→x31→x32→x33→x34→x35→x36→x37→x38→x39)(t:x0×x1×x2×x3×x4×x5×x6×x7×x8×x9×x10×x11×x12×x13×x14×x15×x16×x17×x18×x19×x20×x21×x22×x23×x24×x25×x26×x27×x28×x29×x30×x31×x32×x33×x34×x35×x36×x37×x38):x39:=u38 (f t.1) t.2
abbrev u40 {x0 x1 x2 x3 x4 x5 x6 x7 x8 x9 x10 x11 x12 x13 x14 x15 x16 x17 x18 x19 x20 x21 x22 x23 x24 x25 x26 x27 x28 x29 x30 x31 x32 x33 x34 x35 x36 x37 x38 x39 x40:Type}(f:x0→x1→x2→x3→x4→x5→x6→x7→x8→x9→x10→x11→x12→x13→x14→x15→x16→x17→x18→x19→x20→x21→x22→x23→x24→x25→x26→x27→x28→x29→x30→x31→x32→x33→x34→x35→x36→x37→x38→x39→x40)(t:x0×x1×x2×x3×x4×x5×x6×x7×x8×x9×x10×x11×x12×x13×x14×x15×x16×x17×x18×x19×x20×x21×x22×x23×x24×x25×x26×x27×x28×x29×x30×x31×x32×x33×x34×x35×x36×x37×x38×x39):x40:=u39 (f t.1) t.2
abbrev u41 {x0 x1 x2 x3 x4 x5 x6 x7 x8 x9 x10 x11 x12 x13 x14 x15 x16 x17 x18 x19 x20 x21 x22 x23 x24 x25 x26 x27 x28 x29 x30 x31 x32 x33 x34 x35 x36 x37 x38 x39 x40 x41:Type}(f:x0→x1→x2→x3→x4→x5→x6→x7→x8→x9→x10→x11→x12→x13→x14→x15→x16→x17→x18→x19→x20→x21→x22→x23→x24→x25→x26→x27→x28→x29→x30→x31→x32→x33→x34→x35→x36→x37→x38→x39→x40→x41)(t:x0×x1×x2×x3×x4×x5×x6×x7×x8×x9×x10×x11×x12×x13×x14×x15×x16×x17×x18×x19×x20×x21×x22×x23×x24×x25×x26×x27×x28×x29×x30×x31×x32×x33×x34×x35×x36×x37×x38×x39×x40):x41:=u40 (f t.1) t.2
abbrev u42 {x0 x1 x2 x3 x4 x5 x6 x7 x8 x9 x10 x11 x12 x13 x14 x15 x16 x17 x18 x19 x20 x21 x22 x23 x24 x25 x26 x27 x28 x29 x30 x31 x32 x33 x34 x35 x36 x37 x38 x39 x40 x41 x42:Type}(f:x0→x1→x2→x3→x4→x5→x6→x7→x8→x9→x10→x11→x12→x13→x14→x15→x16→x17→x18→x19→x20→x21→x22→x23→x24→x25→x26→x27→x28→x29→x30→x31→x32→x33→x34→x35→x36→x37→x38→x39→x40→x41→x42)(t:x0×x1×x2×x3×x4×x5×x6×x7×x8×x9×x10×x11×x12×x13×x14×x15×x16×x17×x18×x19×x20×x21×x22×x23×x24×x25×x26×x27×x28×x29×x30×x31×x32×x33×x34×x35×x36×x37×x38×x39×x40×x41):x42:=u41 (f t.1) t.2
abbrev u43 {x0 x1 x2 x3 x4 x5 x6 x7 x8 x9 x10 x11 x12 x13 x14 x15 x16 x17 x18 x19 x20 x21 x22 x23 x24 x25 x26 x27 x28 x29 x30 x31 x32 x33 x34 x35 x36 x37 x38 x39 x40 x41 x42 x43:Type}(f:x0→x1→x2→x3→x4→x5→x6→x7→x8→x9→x10→x11→x12→x13→x14→x15→x16→x17→x18→x19→x20→x21→x22→x23→x24→x25→x26→x27→x28→x29→x30→x31→x32→x33→x34→x35→x36→x37→x38→x39→x40→x41→x42→x43)(t:x0×x1×x2×x3×x4×x5×x6×x7×x8×x9×x10×x11×x12×x13×x14×x15×x16×x17×x18×x19×x20×x21×x22×x23×x24×x25×x26×x27×x28×x29×x30×x31×x32×x33×x34×x35×x36×x37×x38×x39×x40×x41×x42):x43:=u42 (f t.1) t.2
abbrev u44 {x0 x1 x2 x3 x4 x5 x6 x7 x8 x9 x10 x11 x12 x13 x14 x15 x16 x17 x18 x19 x20 x21 x22 x23 x24 x25 x26 x27 x28 x29 x30 x31 x32 x33 x34 x35 x36 x37 x38 x39 x40 x41 x42 x43 x44:Type}(f:x0→x1→x2→x3→x4→x5→x6→x7→x8→x9→x10→x11→x12→x13→x14→x15→x16→x17→x18→x19→x20→x21→x22→x23→x24→x25→x26→x27→x28→x29→x30→x31→x32→x33→x34→x35→x36→x37→x38→x39→x40→x41→x42→x43→x44)(t:x0×x1×x2×x3×x4×x5×x6×x7×x8×x9×x10×x11×x12×x13×x14×x15×x16×x17×x18×x19×x20×x21×x22×x23×x24×x25×x26×x27×x28×x29×x30×x31×x32×x33×x34×x35×x36×x37×x38×x39×x40×x41×x42×x43):x44:=u43 (f t.1) t.2
abbrev u45 {x0 x1 x2 x3 x4 x5 x6 x7 x8 x9 x10 x11 x12 x13 x14 x15 x16 x17 x18 x19 x20 x21 x22 x23 x24 x25 x26 x27 x28 x29 x30 x31 x32 x33 x34 x35 x36 x37 x38 x39 x40 x41 x42 x43 x44 x45:Type}(f:x0→x1→x2→x3→x4→x5→x6→x7→x8→x9→x10→x11→x12→x13→x14→x15→x16→x17→x18→x19→x20→x21→x22→x23→x24→x25→x26→x27→x28→x29→x30→x31→x32→x33→x34→x35→x36→x37→x38→x39→x40→x41→x42→x43→x44→x45)(t:x0×x1×x2×x3×x4×x5×x6×x7×x8×x9×x10×x11×x12×x13×x14×x15×x16×x17×x18×x19×x20×x21×x22×x23×x24×x25×x26×x27×x28×x29×x30×x31×x32×x33×x34×x35×x36×x37×x38×x39×x40×x41×x42×x43×x44):x45:=u44 (f t.1) t.2
abbrev u46 {x0 x1 x2 x3 x4 x5 x6 x7 x8 x9 x10 x11 x12 x13 x14 x15 x16 x17 x18 x19 x20 x21 x22 x23 x24 x25 x26 x27 x28 x29 x30 x31 x32 x33 x34 x35 x36 x37 x38 x39 x40 x41 x42 x43 x44 x45 x46:Type}(f:x0→x1→x2→x3→x4→x5→x6→x7→x8→x9→x10→x11→x12→x13→x14→x15→x16→x17→x18→x19→x20→x21→x22→x23→x24→x25→x26→x27→x28→x29→x30→x31→x32→x33→x34→x35→x36→x37→x38→x39→x40→x41→x42→x43→x44→x45→x46)(t:x0×x1×x2×x3×x4×x5×x6×x7×x8×x9×x10×x11×x12×x13×x14×x15×x16×x17×x18×x19×x20×x21×x22×x23×x24×x25×x26×x27×x28×x29×x30×x31×x32×x33×x34×x35×x36×x37×x38×x39×x40×x41×x42×x43×x44×x45):x46:=u45 (f t.1) t.2
abbrev u47 {x0 x1 x2 x3 x4 x5 x6 x7 x8 x9 x10 x11 x12 x13 x14 x15 x16 x17 x18 x19 x20 x21 x22 x23 x24 x25 x26 x27 x28 x29 x30 x31 x32 x33 x34 x35 x36 x37 x38 x39 x40 x41 x42 x43 x44 x45 x46 x47:Type}(f:x0→x1→x2→x3→x4→x5→x6→x7→x8→x9→x10→x11→x12→x13→x14→x15→x16→x17→x18→x19→x20→x21→x22→x23→x24→x25→x26→x27→x28→x29→x30→x31→x32→x33→x34→x35→x36→x37→x38→x39→x40→x41→x42→x43→x44→x45→x46→x47)(t:x0×x1×x2×x3×x4×x5×x6×x7×x8×x9×x10×x11×x12×x13×x14×x15×x16×x17×x18×x19×x20×x21×x22×x23×x24×x25×x26×x27×x28×x29×x30×x31×x32×x33×x34×x35×x36×x37×x38×x39×x40×x41×x42×x43×x44×x45×x46):x47:=u46 (f t.1) t.2
abbrev u48 {x0 x1 x2 x3 x4 x5 x6 x7 x8 x9 x10 x11 x12 x13 x14 x15 x16 x17 x18 x19 x20 x21 x22 x23 x24 x25 x26 x27 x28 x29 x30 x31 x32 x33 x34 x35 x36 x37 x38 x39 x40 x41 x42 x43 x44 x45 x46 x47 x48:Type}(f:x0→x1→x2→x3→x4→x5→x6→x7→x8→x9→x10→x11→x12→x13→x14→x15→x16→x17→x18→x19→x20→x21→x22→x23→x24→x25→x26→x27→x28→x29→x30→x31→x32→x33→x34→x35→x36→x37→x38→x39→x40→x41→x42→x43→x44→x45→x46→x47→x48)(t:x0×x1×x2×x3×x4×x5×x6×x7×x8×x9×x10×x11×x12×x13×x14×x15×x16×x17×x18×x19×x20×x21×x22×x23×x24×x25×x26×x27×x28×x29×x30×x31×x32×x33×x34×x35×x36×x37×x38×x39×x40×x41×x42×x43×x44×x45×x46×x47):x48:=u47 (f t.1) t.2
abbrev u49 {x0 x1 x2 x3 x4 x5 x6 x7 x8 x9 x10 x11 x12 x13 x14 x15 x16 x17 x18 x19 x20 x21 x22 x23 x24 x25 x26 x27 x28 x29 x30 x31 x32 x33 x34 x35 x36 x37 x38 x39 x40 x41 x42 x43 x44 x45 x46 x47 x48 x49:Type}(f:x0→x1→x2→x3→x4→x5→x6→x7→x8→x9→x10→x11→x12→x13→x14→x15→x16→x17→x18→x19→x20→x21→x22→x23→x24→x25→x26→x27→x28→x29→x30→x31→x32→x33→x34→x35→x36→x37→x38→x39→x40→x41→x42→x43→x44→x45→x46→x47→x48→x49)(t:x0×x1×x2×x3×x4×x5×x6×x7×x8×x9×x10×x11×x12×x13×x14×x15×x16×x17×x18×x19×x20×x21×x22×x23×x24×x25×x26×x27×x28×x29×x30×x31×x32×x33×x34×x35×x36×x37×x38×x39×x40×x41×x42×x43×x44×x45×x46×x47×x48):x49:=u48 (f t.1) t.2
abbrev u50 {x0 x1 x2 x3 x4 x5 x6 x7 x8 x9 x10 x11 x12 x13 x14 x15 x16 x17 x18 x19 x20 x21 x22 x23 x24 x25 x26 x27 x28 x29 x30 x31 x32 x33 x34 x35 x36 x37 x38 x39 x40 x41 x42 x43 x44 x45 x46 x47 x48 x49 x50:Type}(f:x0→x1→x2→x3→x4→x5→x6→x7→x8→x9→x10→x11→x12→x13→x14→x15→x16→x17→x18→x19→x20→x21→x22→x23→x24→x25→x26→x27→x28→x29→x30→x31→x32→x33→x34→x35→x36→x37→x38→x39→x40→x41→x42→x43→x44→x45→x46→x47→x48→x49→x50)(t:x0×x1×x2×x3×x4×x5×x6×x7×x8×x9×x10×x11×x12×x13×x14×x15×x16×x17×x18×x19×x20×x21×x22×x23×x24×x25×x26×x27×x28×x29×x30×x31×x32×x33×x34×x35×x36×x37×x38×x39×x40×x41×x42×x43×x44×x45×x46×x47×x48×x49):x50:=u49 (f t.1) t.2
abbrev u51 {x0 x1 x2 x3 x4 x5 x6 x7 x8 x9 x10 x11 x12 x13 x14 x15 x16 x17 x18 x19 x20 x21 x22 x23 x24 x25 x26 x27 x28 x29 x30 x31 x32 x33 x34 x35 x36 x37 x38 x39 x40 x41 x42 x43 x44 x45 x46 x47 x48 x49 x50 x51:Type}(f:x0→x1→x2→x3→x4→x5→x6→x7→x8→x9→x10→x11→x12→x13→x14→x15→x16→x17→x18→x19→x20→x21→x22→x23→x24→x25→x26→x27→x28→x29→x30→x31→x32→x33→x34→x35→x36→x37→x38→x39→x40→x41→x42→x43→x44→x45→x46→x47→x48→x49→x50→x51)(t:x0×x1×x2×x3×x4×x5×x6×x7×x8×x9×x10×x11×x12×x13×x14×x15×x16×x17×x18×x19×x20×x21×x22×x23×x24×x25×x26×x27×x28×x29×x30×x31×x32×x33×x34×x35×x36×x37×x38×x39×x40×x41×x42×x43×x44×x45×x46×x47×x48×x49×x50):x51:=u50 (f t.1) t.2
abbrev u52 {x0 x1 x2 x3 x4 x5 x6 x7 x8 x9 x10 x11 x12 x13 x14 x15 x16 x17 x18 x19 x20 x21 x22 x23 x24 x25 x26 x27 x28 x29 x30 x31 x32 x33 x34 x35 x36 x37 x38 x39 x40 x41 x42 x43 x44 x45 x46 x47 x48 x49 x50 x51 x52:Type}(f:x0→x1→x2→x3→x4→x5→x6→x7→x8→x9→x10→x11→x12→x13→x14→x15→x16→x17→x18→x19→x20→x21→x22→x23→x24→x25→x26→x27→x28→x29→x30→x31→x32→x33→x34→x35→x36→x37→x38→x39→x40→x41→x42→x43→x44→x45→x46→x47→x48→x49→x50→x51→x52)(t:x0×x1×x2×x3×x4×x5×x6×x7×x8×x9×x10×x11×x12×x13×x14×x15×x16×x17×x18×x19×x20×x21×x22×x23×x24×x25×x26×x27×x28×x29×x30×x31×x32×x33×x34×x35×x36×x37×x38×x39×x40×x41×x42×x43×x44×x45×x46×x47×x48×x49×x50×x51):x52:=u51 (f t.1) t.2
abbrev u53 {x0 x1 x2 x3 x4 x5 x6 x7 x8 x9 x10 x11 x12 x13 x14 x15 x16 x17 x18 x19 x20 x21 x22 x23 x24 x25 x26 x27 x28 x29 x30 x31 x32 x33 x34 x35 x36 x37 x38 x39 x40 x41 x42 x43 x44 x45 x46 x47 x48 x49 x50 x51 x52 x53:Type}(f:x0→x1→x2→x3→x4→x5→x6→x7→x8→x9→x10→x11→x12→x13→x14→x15→x16→x17→x18→x19→x20→x21→x22→x23→x24→x25→x26→x27→x28→x29→x30→x31→x32→x33→x34→x35→x36→x37→x38→x39→x40→x41→x42→x43→x44→x45→x46→x47→x48→x49→x50→x51→x52→x53)(t:x0×x1×x2×x3×x4×x5×x6×x7×x8×x9×x10×x11×x12×x13×x14×x15×x16×x17×x18×x19×x20×x21×x22×x23×x24×x25×x26×x27×x28×x29×x30×x31×x32×x33×x34×x35×x36×x37×x38×x39×x40×x41×x42×x43×x44×x45×x46×x47×x48×x49×x50×x51×x52):x53:=u52 (f t.1) t.2
abbrev u54 {x0 x1 x2 x3 x4 x5 x6 x7 x8 x9 x10 x11 x12 x13 x14 x15 x16 x17 x18 x19 x20 x21 x22 x23 x24 x25 x26 x27 x28 x29 x30 x31 x32 x33 x34 x35 x36 x37 x38 x39 x40 x41 x42 x43 x44 x45 x46 x47 x48 x49 x50 x51 x52 x53 x54:Type}(f:x0→x1→x2→x3→x4→x5→x6→x7→x8→x9→x10→x11→x12→x13→x14→x15→x16→x17→x18→x19→x20→x21→x22→x23→x24→x25→x26→x27→x28→x29→x30→x31→x32→x33→x34→x35→x36→x37→x38→x39→x40→x41→x42→x43→x44→x45→x46→x47→x48→x49→x50→x51→x52→x53→x54)(t:x0×x1×x2×x3×x4×x5×x6×x7×x8×x9×x10×x11×x12×x13×x14×x15×x16×x17×x18×x19×x20×x21×x22×x23×x24×x25×x26×x27×x28×x29×x30×x31×x32×x33×x34×x35×x36×x37×x38×x39×x40×x41×x42×x43×x44×x45×x46×x47×x48×x49×x50×x51×x52×x53):x54:=u53 (f t.1) t.2
abbrev u55 {x0 x1 x2 x3 x4 x5 x6 x7 x8 x9 x10 x11 x12 x13 x14 x15 x16 x17 x18 x19 x20 x21 x22 x23 x24 x25 x26 x27 x28 x29 x30 x31 x32 x33 x34 x35 x36 x37 x38 x39 x40 x41 x42 x43 x44 x45 x46 x47 x48 x49 x50 x51 x52 x53 x54 x55:Type}(f:x0→x1→x2→x3→x4→x5→x6→x7→x8→x9→x10→x11→x12→x13→x14→x15→x16→x17→x18→x19→x20→x21→x22→x23→x24→x25→x26→x27→x28→x29→x30→x31→x32→x33→x34→x35→x36→x37→x38→x39→x40→x41→x42→x43→x44→x45→x46→x47→x48→x49→x50→x51→x52→x53→x54→x55)(t:x0×x1×x2×x3×x4×x5×x6×x7×x8×x9×x10×x11×x12×x13×x14×x15×x16×x17×x18×x19×x20×x21×x22×x23×x24×x25×x26×x27×x28×x29×x30×x31×x32×x33×x34×x35×x36×x37×x38×x39×x40×x41×x42×x43×x44×x45×x46×x47×x48×x49×x50×x51×x52×x53×x54):x55:=u54 (f t.1) t.2
abbrev u56 {x0 x1 x2 x3 x4 x5 x6 x7 x8 x9 x10 x11 x12 x13 x14 x15 x16 x17 x18 x19 x20 x21 x22 x23 x24 x25 x26 x27 x28 x29 x30 x31 x32 x33 x34 x35 x36 x37 x38 x39 x40 x41 x42 x43 x44 x45 x46 x47 x48 x49 x50 x51 x52 x53 x54 x55 x56:Type}(f:x0→x1→x2→x3→x4→x5→x6→x7→x8→x9→x10→x11→x12→x13→x14→x15→x16→x17→x18→x19→x20→x21→x22→x23→x24→x25→x26→x27→x28→x29→x30→x31→x32→x33→x34→x35→x36→x37→x38→x39→x40→x41→x42→x43→x44→x45→x46→x47→x48→x49→x50→x51→x52→x53→x54→x55→x56)(t:x0×x1×x2×x3×x4×x5×x6×x7×x8×x9×x10×x11×x12×x13×x14×x15×x16×x17×x18×x19×x20×x21×x22×x23×x24×x25×x26×x27×x28×x29×x30×x31×x32×x33×x34×x35×x36×x37×x38×x39×x40×x41×x42×x43×x44×x45×x46×x47×x48×x49×x50×x51×x52×x53×x54×x55):x56:=u55 (f t.1) t.2
abbrev u57 {x0 x1 x2 x3 x4 x5 x6 x7 x8 x9 x10 x11 x12 x13 x14 x15 x16 x17 x18 x19 x20 x21 x22 x23 x24 x25 x26 x27 x28 x29 x30 x31 x32 x33 x34 x35 x36 x37 x38 x39 x40 x41 x42 x43 x44 x45 x46 x47 x48 x49 x50 x51 x52 x53 x54 x55 x56 x57:Type}(f:x0→x1→x2→x3→x4→x5→x6→x7→x8→x9→x10→x11→x12→x13→x14→x15→x16→x17→x18→x19→x20→x21→x22→x23→x24→x25→x26→x27→x28→x29→x30→x31→x32→x33→x34→x35→x36→x37→x38→x39→x40→x41→x42→x43→x44→x45→x46→x47→x48→x49→x50→x51→x52→x53→x54→x55→x56→x57)(t:x0×x1×x2×x3×x4×x5×x6×x7×x8×x9×x10×x11×x12×x13×x14×x15×x16×x17×x18×x19×x20×x21×x22×x23×x24×x25×x26×x27×x28×x29×x30×x31×x32×x33×x34×x35×x36×x37×x38×x39×x40×x41×x42×x43×x44×x45×x46×x47×x48×x49×x50×x51×x52×x53×x54×x55×x56):x57:=u56 (f t.1) t.2
abbrev u58 {x0 x1 x2 x3 x4 x5 x6 x7 x8 x9 x10 x11 x12 x13 x14 x15 x16 x17 x18 x19 x20 x21 x22 x23 x24 x25 x26 x27 x28 x29 x30 x31 x32 x33 x34 x35 x36 x37 x38 x39 x40 x41 x42 x43 x44 x45 x46 x47 x48 x49 x50 x51 x52 x53 x54 x55 x56 x57 x58:Type}(f:x0→x1→x2→x3→x4→x5→x6→x7→x8→x9→x10→x11→x12→x13→x14→x15→x16→x17→x18→x19→x20→x21→x22→x23→x24→x25→x26→x27→x28→x29→x30→x31→x32→x33→x34→x35→x36→x37→x38→x39→x40→x41→x42→x43→x44→x45→x46→x47→x48→x49→x50→x51→x52→x53→x54→x55→x56→x57→x58)(t:x0×x1×x2×x3×x4×x5×x6×x7×x8×x9×x10×x11×x12×x13×x14×x15×x16×x17×x18×x19×x20×x21×x22×x23×x24×x25×x26×x27×x28×x29×x30×x31×x32×x33×x34×x35×x36×x37×x38×x39×x40×x41×x42×x43×x44×x45×x46×x47×x48×x49×x50×x51×x52×x53×x54×x55×x56×x57):x58:=u57 (f t.1) t.2
abbrev u59 {x0 x1 x2 x3 x4 x5 x6 x7 x8 x9 x10 x11 x12 x13 x14 x15 x16 x17 x18 x19 x20 x21 x22 x23 x24 x25 x26 x27 x28 x29 x30 x31 x32 x33 x34 x35 x36 x37 x38 x39 x40 x41 x42 x43 x44 x45 x46 x47 x48 x49 x50 x51 x52 x53 x54 x55 x56 x57 x58 x59:Type}(f:x0→x1→x2→x3→x4→x5→x6→x7→x8→x9→x10→x11→x12→x13→x14→x15→x16→x17→x18→x19→x20→x21→x22→x23→x24→x25→x26→x27→x28→x29→x30→x31→x32→x33→x34→x35→x36→x37→x38→x39→x40→x41→x42→x43→x44→x45→x46→x47→x48→x49→x50→x51→x52→x53→x54→x55→x56→x57→x58→x59)(t:x0×x1×x2×x3×x4×x5×x6×x7×x8×x9×x10×x11×x12×x13×x14×x15×x16×x17×x18×x19×x20×x21×x22×x23×x24×x25×x26×x27×x28×x29×x30×x31×x32×x33×x34×x35×x36×x37×x38×x39×x40×x41×x42×x43×x44×x45×x46×x47×x48×x49×x50×x51×x52×x53×x54×x55×x56×x57×x58):x59:=u58 (f t.1) t.2
abbrev u60 {x0 x1 x2 x3 x4 x5 x6 x7 x8 x9 x10 x11 x12 x13 x14 x15 x16 x17 x18 x19 x20 x21 x22 x23 x24 x25 x26 x27 x28 x29 x30 x31 x32 x33 x34 x35 x36 x37 x38 x39 x40 x41 x42 x43 x44 x45 x46 x47 x48 x49 x50 x51 x52 x53 x54 x55 x56 x57 x58 x59 x60:Type}(f:x0→x1→x2→x3→x4→x5→x6→x7→x8→x9→x10→x11→x12→x13→x14→x15→x16→x17→x18→x19→x20→x21→x22→x23→x24→x25→x26→x27→x28→x29→x30→x31→x32→x33→x34→x35→x36→x37→x38→x39→x40→x41→x42→x43→x44→x45→x46→x47→x48→x49→x50→x51→x52→x53→x54→x55→x56→x57→x58→x59→x60)(t:x0×x1×x2×x3×x4×x5×x6×x7×x8×x9×x10×x11×x12×x13×x14×x15×x16×x17×x18×x19×x20×x21×x22×x23×x24×x25×x26×x27×x28×x29×x30×x31×x32×x33×x34×x35×x36×x37×x38×x39×x40×x41×x42×x43×x44×x45×x46×x47×x48×x49×x50×x51×x52×x53×x54×x55×x56×x57×x58×x59):x60:=u59 (f t.1) t.2
abbrev u61 {x0 x1 x2 x3 x4 x5 x6 x7 x8 x9 x10 x11 x12 x13 x14 x15 x16 x17 x18 x19 x20 x21 x22 x23 x24 x25 x26 x27 x28 x29 x30 x31 x32 x33 x34 x35 x36 x37 x38 x39 x40 x41 x42 x43 x44 x45 x46 x47 x48 x49 x50 x51 x52 x53 x54 x55 x56 x57 x58 x59 x60 x61:Type}(f:x0→x1→x2→x3→x4→x5→x6→x7→x8→x9→x10→x11→x12→x13→x14→x15→x16→x17→x18→x19→x20→x21→x22→x23→x24→x25→x26→x27→x28→x29→x30→x31→x32→x33→x34→x35→x36→x37→x38→x39→x40→x41→x42→x43→x44→x45→x46→x47→x48→x49→x50→x51→x52→x53→x54→x55→x56→x57→x58→x59→x60→x61)(t:x0×x1×x2×x3×x4×x5×x6×x7×x8×x9×x10×x11×x12×x13×x14×x15×x16×x17×x18×x19×x20×x21×x22×x23×x24×x25×x26×x27×x28×x29×x30×x31×x32×x33×x34×x35×x36×x37×x38×x39×x40×x41×x42×x43×x44×x45×x46×x47×x48×x49×x50×x51×x52×x53×x54×x55×x56×x57×x58×x59×x60):x61:=u60 (f t.1) t.2
abbrev u62 {x0 x1 x2 x3 x4 x5 x6 x7 x8 x9 x10 x11 x12 x13 x14 x15 x16 x17 x18 x19 x20 x21 x22 x23 x24 x25 x26 x27 x28 x29 x30 x31 x32 x33 x34 x35 x36 x37 x38 x39 x40 x41 x42 x43 x44 x45 x46 x47 x48 x49 x50 x51 x52 x53 x54 x55 x56 x57 x58 x59 x60 x61 x62:Type}(f:x0→x1→x2→x3→x4→x5→x6→x7→x8→x9→x10→x11→x12→x13→x14→x15→x16→x17→x18→x19→x20→x21→x22→x23→x24→x25→x26→x27→x28→x29→x30→x31→x32→x33→x34→x35→x36→x37→x38→x39→x40→x41→x42→x43→x44→x45→x46→x47→x48→x49→x50→x51→x52→x53→x54→x55→x56→x57→x58→x59→x60→x61→x62)(t:x0×x1×x2×x3×x4×x5×x6×x7×x8×x9×x10×x11×x12×x13×x14×x15×x16×x17×x18×x19×x20×x21×x22×x23×x24×x25×x26×x27×x28×x29×x30×x31×x32×x33×x34×x35×x36×x37×x38×x39×x40×x41×x42×x43×x44×x45×x46×x47×x48×x49×x50×x51×x52×x53×x54×x55×x56×x57×x58×x59×x60×x61):x62:=u61 (f t.1) t.2
abbrev u63 {x0 x1 x2 x3 x4 x5 x6 x7 x8 x9 x10 x11 x12 x13 x14 x15 x16 x17 x18 x19 x20 x21 x22 x23 x24 x25 x26 x27 x28 x29 x30 x31 x32 x33 x34 x35 x36 x37 x38 x39 x40 x41 x42 x43 x44 x45 x46 x47 x48 x49 x50 x51 x52 x53 x54 x55 x56 x57 x58 x59 x60 x61 x62 x63:Type}(f:x0→x1→x2→x3→x4→x5→x6→x7→x8→x9→x10→x11→x12→x13→x14→x15→x16→x17→x18→x19→x20→x21→x22→x23→x24→x25→x26→x27→x28→x29→x30→x31→x32→x33→x34→x35→x36→x37→x38→x39→x40→x41→x42→x43→x44→x45→x46→x47→x48→x49→x50→x51→x52→x53→x54→x55→x56→x57→x58→x59→x60→x61→x62→x63)(t:x0×x1×x2×x3×x4×x5×x6×x7×x8×x9×x10×x11×x12×x13×x14×x15×x16×x17×x18×x19×x20×x21×x22×x23×x24×x25×x26×x27×x28×x29×x30×x31×x32×x33×x34×x35×x36×x37×x38×x39×x40×x41×x42×x43×x44×x45×x46×x47×x48×x49×x50×x51×x52×x53×x54×x55×x56×x57×x58×x59×x60×x61×x62):x63:=u62 (f t.1) t.2
abbrev u64 {x0 x1 x2 x3 x4 x5 x6 x7 x8 x9 x10 x11 x12 x13 x14 x15 x16 x17 x18 x19 x20 x21 x22 x23 x24 x25 x26 x27 x28 x29 x30 x31 x32 x33 x34 x35 x36 x37 x38 x39 x40 x41 x42 x43 x44 x45 x46 x47 x48 x49 x50 x51 x52 x53 x54 x55 x56 x57 x58 x59 x60 x61 x62 x63 x64:Type}(f:x0→x1→x2→x3→x4→x5→x6→x7→x8→x9→x10→x11→x12→x13→x14→x15→x16→x17→x18→x19→x20→x21→x22→x23→x24→x25→x26→x27→x28→x29→x30→x31→x32→x33→x34→x35→x36→x37→x38→x39→x40→x41→x42→x43→x44→x45→x46→x47→x48→x49→x50→x51→x52→x53→x54→x55→x56→x57→x58→x59→x60→x61→x62→x63→x64)(t:x0×x1×x2×x3×x4×x5×x6×x7×x8×x9×x10×x11×x12×x13×x14×x15×x16×x17×x18×x19×x20×x21×x22×x23×x24×x25×x26×x27×x28×x29×x30×x31×x32×x33×x34×x35×x36×x37×x38×x39×x40×x41×x42×x43×x44×x45×x46×x47×x48×x49×x50×x51×x52×x53×x54×x55×x56×x57×x58×x59×x60×x61×x62×x63):x64:=u63 (f t.1) t.2
abbrev u65 {x0 x1 x2 x3 x4 x5 x6 x7 x8 x9 x10 x11 x12 x13 x14 x15 x16 x17 x18 x19 x20 x21 x22 x23 x24 x25 x26 x27 x28 x29 x30 x31 x32 x33 x34 x35 x36 x37 x38 x39 x40 x41 x42 x43 x44 x45 x46 x47 x48 x49 x50 x51 x52 x53 x54 x55 x56 x57 x58 x59 x60 x61 x62 x63 x64 x65:Type}(f:x0→x1→x2→x3→x4→x5→x6→x7→x8→x9→x10→x11→x12→x13→x14→x15→x16→x17→x18→x19→x20→x21→x22→x23→x24→x25→x26→x27→x28→x29→x30→x31→x32→x33→x34→x35→x36→x37→x38→x39→x40→x41→x42→x43→x44→x45→x46→x47→x48→x49→x50→x51→x52→x53→x54→x55→x56→x57→x58→x59→x60→x61→x62→x63→x64→x65)(t:x0×x1×x2×x3×x4×x5×x6×x7×x8×x9×x10×x11×x12×x13×x14×x15×x16×x17×x18×x19×x20×x21×x22×x23×x24×x25×x26×x27×x28×x29×x30×x31×x32×x33×x34×x35×x36×x37×x38×x39×x40×x41×x42×x43×x44×x45×x46×x47×x48×x49×x50×x51×x52×x53×x54×x55×x56×x57×x58×x59×x60×x61×x62×x63×x64):x65:=u64 (f t.1) t.2
abbrev u66 {x0 x1 x2 x3 x4 x5 x6 x7 x8 x9 x10 x11 x12 x13 x14 x15 x16 x17 x18 x19 x20 x21 x22 x23 x24 x25 x26 x27 x28 x29 x30 x31 x32 x33 x34 x35 x36 x37 x38 x39 x40 x41 x42 x43 x44 x45 x46 x47 x48 x49 x50 x51 x52 x53 x54 x55 x56 x57 x58 x59 x60 x61 x62 x63 x64 x65 x66:Type}(f:x0→x1→x2→x3→x4→x5→x6→x7→x8→x9→x10→x11→x12→x13→x14→x15→x16→x17→x18→x19→x20→x21→x22→x23→x24→x25→x26→x27→x28→x29→x30→x31→x32→x33→x34→x35→x36→x37→x38→x39→x40→x41→x42→x43→x44→x45→x46→x47→x48→x49→x50→x51→x52→x53→x54→x55→x56→x57→x58→x59→x60→x61→x62→x63→x64→x65→x66)(t:x0×x1×x2×x3×x4×x5×x6×x7×x8×x9×x10×x11×x12×x13×x14×x15×x16×x17×x18×x19×x20×x21×x22×x23×x24×x25×x26×x27×x28×x29×x30×x31×x32×x33×x34×x35×x36×x37×x38×x39×x40×x41×x42×x43×x44×x45×x46×x47×x48×x49×x50×x51×x52×x53×x54×x55×x56×x57×x58×x59×x60×x61×x62×x63×x64×x65):x66:=u65 (f t.1) t.2
abbrev Rt :=uW aB
theorem rq {P:Program}{f:FuncId}{tab:List FSum}{vals:List Sk}{objs:List OSk}{outs:List Alt}{run:Tup (wH.shs ⟨vals,[],objs⟩)→Option (tX outs)}(at':AT)(ht:ki P tab)(he: ∀t,bb7 P f ⟨tab,[]⟩ vals objs outs at' t=run t):uW P ⟨f,vals,objs,outs,run⟩:=cx7 ht he
abbrev NS :Sk:= .nils
set_option maxRecDepth 100000
abbrev x :Sh:=(.int .i64)
abbrev ax :Sh:=(.int .u64)
abbrev bc :Sh:=(.list ax)
abbrev bb :Sh:=(.list bc)
abbrev bi :Sh:=(.pair x ax)
abbrev ay :Sh:=(.pair x bc)
abbrev an :Sh:=(.list ay)
abbrev bj :Sh:=(.pair x bi)
abbrev bk :Sh:=(.pair x (.pair ax x))
abbrev bl :Sh:=(.pair x bj)
abbrev bg :Sh:=(.pair x bk)
abbrev am :Sh:=(.pair x bl)
abbrev bh :Sh:=(.pair x bg)
abbrev bf :Sh:=(.list am)
abbrev ar :Sh:=(.pair x bh)
abbrev o :Sk:=(.full 1)
abbrev w :Sk:=(.full 2)
abbrev g :Sk:=(.ptr 0 0)
abbrev az :Sk:=(.ptr 6 0)
abbrev aq :Sk:=(.ptr 7 0)
abbrev a :Sk:=(.leaf x)
abbrev i :Sk:=(.leaf bc)
abbrev c :Sk:=(.leaf ax)
abbrev m :Sk:=(.leaf bf)
abbrev p :Sk:=(.leaf .bool)
abbrev j :Sk:=(.cint .i64 0)
abbrev aa :Sk:=(.agg [a,m])
abbrev ap :Sk:=(.agg [a,a,a,a,c])
abbrev af :Sk:=(.agg [a,i,i,a,m,a,m,a,a])
abbrev ai :Sk:=(.agg [a,i,i,a,m,a,m,a,a,a,m,a,m,a,i,a,a,a,a,a,a,a,i,(.leaf an),a,(.leaf bb),i,i,c,a,a,a,a,a])
abbrev be :Sk:=(.tup [ai,a])
abbrev d :OSk:=(.arr true ax)
abbrev k :OSk:=(.arr true x)
abbrev l :OSk:=(.arr false x)
abbrev b :OSk:=(.arr false ax)
abbrev h :OSk:=(.arr true am)
abbrev ab :OSk:=(.cells 1 true [(.full 8),a])
abbrev ac :OSk:=(.cells 1 true [(.full 9),a])
abbrev r :OSk:=(.cells 1 true [a,a,a])
abbrev q :OSk:=(.cells 1 false [a,a,a])
abbrev ad :OSk:=(.cells 1 true [a,a,a,az])
abbrev ao :OSk:=(.cells 1 false [a,a,a,a,o])
abbrev ba :OSk:=(.cells 1 false [c,c,c,c,c,c,c,c])
abbrev au :OSk:=(.cells 1 false [a,a,a,a,a,a,a,a])
abbrev al :OSk:=(.cells 1 false [a,i,i,a,m,a,m,a,a])
abbrev aj :OSk:=(.cells 1 true [a,a,a,a,a,o,w,a,(.full 3),a,(.full 4),a,a,(.full 5),az, .nilp,aq,a,a,a,a,a,a,a,c])
abbrev ah :OSk:=(.cells 1 false [a,a,a,a,a,o,w,a,(.full 3),a,(.full 4),a,a,(.full 5),az, .nilp,aq,a,a,a,a,a,a,a,c])
abbrev ak :OSk:=(.cells 1 true [a,a,a,a,a,o,w,a,(.full 3),a,(.full 4),a,a,(.full 5),az,aq,(.ptr 8 0),a,a,a,a,a,a,a,c])
abbrev ag :OSk:=(.cells 1 false [a,a,a,a,a,o,w,a,(.full 3),a,(.full 4),a,a,(.full 5),az,aq,(.ptr 8 0),a,a,a,a,a,a,a,c])
abbrev av :OSk:=(.cells 1 false [a,a,a,a,a,w,(.full 3),a,(.full 4),a,(.full 5),a,a,(.full 6),aq, .nilp,(.ptr 8 0),a,a,a,a,a,a,a,c])
abbrev aw :OSk:=(.cells 1 false [a,a,a,a,a,w,(.full 3),a,(.full 4),a,(.full 5),a,a,(.full 6),aq,(.ptr 8 0),(.ptr 9 0),a,a,a,a,a,a,a,c])
abbrev ae :OSk:=(.cells 1 false [a,i,i,a,m,a,m,a,a,a,m,a,m,a,i,a,a,a,a,a,a,a,i,(.leaf an),a,(.leaf bb),i,i,c,a,a,a,a,a])
abbrev bd :OSk:=(.cells 1 false [j,NS,NS,j,NS,j,NS,j,j,j,NS,j,NS,j,NS,j,j,j,j,j,j,j,NS,NS,j,NS,NS,NS,(.cint .u64 0),j,j,j,j,j])
abbrev y :Alt:=⟨.ret,[],⟨[p],[],[]⟩⟩
abbrev v :Alt:=⟨.ret,[],⟨[a],[],[]⟩⟩
def bi7 :FSum:=⟨55,[af,a],[],[y],by exact u10 xT⟩
theorem bl1 :Rt bi7:=rq (.no) (.nil _) fun _=>by kernel_rfl
def bv1 :FSum:=⟨249,[m],[],[y],pB⟩
theorem ab3 :Rt bv1:=rq ((.n .no (.n .no (.n (.n .no (.n (.lp [] ⟨.normal,[4,3],⟨[a,a],[],[]⟩⟩ [⟨.ret,[2],⟨[p],[],[]⟩⟩,⟨(.exit 0),[3],⟨[a],[],[]⟩⟩] (.n .no (.n (.n (.n .no (.jn [] [] [⟨.normal,[3],⟨[a],[],[]⟩⟩] .no .no)) .no) .no))) .no)) .no)))) (.nil _) fun _=>by kernel_rfl
def bu9 :FSum:=⟨250,[a],[],[⟨.ret,[],⟨[(.agg [p,p,p,p])],[],[]⟩⟩],il⟩
theorem sr :Rt bu9:=rq ((.n .no (.jn [0] [] [⟨.ret,[],⟨[],[(.cells 1 false [p,p,p,p])],[]⟩⟩,⟨.normal,[],⟨[],[(.cells 1 false [p,p,p,p])],[]⟩⟩] .no .no))) (.nil _) fun _=>by kernel_rfl
def bj2 :FSum:=⟨323,[ap],[],[y],by exact u5 tn⟩
theorem bl4 :Rt bj2:=rq ((.n .no (.n .no (.n .no (.n .no (.n (.n .no (.n (.lp [] ⟨.normal,[5],⟨[a],[],[]⟩⟩ [⟨.ret,[2],⟨[p],[],[]⟩⟩,⟨(.exit 0),[],⟨[],[],[]⟩⟩] .no) .no)) .no)))))) (.cons sr (.nil _)) fun _=>by kernel_rfl
def bv5 :FSum:=⟨283,[aa],[],[y],by exact u2 vh⟩
theorem bz3 :Rt bv5:=rq ((.n .no (.n .no (.n (.n .no (.n (.lp [] ⟨.normal,[3],⟨[a],[],[]⟩⟩ [⟨.ret,[2],⟨[p],[],[]⟩⟩,⟨(.exit 0),[],⟨[],[],[]⟩⟩] .no) .no)) .no)))) (.cons ab3 (.cons bl4 (.nil _))) fun _=>by kernel_rfl
def aB4 :FSum:=⟨284,[aa],[],[y],by exact u2 oO⟩
theorem aC2 :Rt aB4:=rq ((.n .no (.n .no (.n (.n .no (.n (.lp [] ⟨.normal,[3],⟨[a],[],[]⟩⟩ [⟨.ret,[2],⟨[p],[],[]⟩⟩,⟨(.exit 0),[],⟨[],[],[]⟩⟩] .no) .no)) .no)))) (.cons sr (.nil _)) fun _=>by kernel_rfl
def aW7 :FSum:=⟨324,[m,a],[],[v],by exact u2 rS⟩
theorem aY6 :Rt aW7:=rq ((.n .no (.n .no (.n (.n .no (.n (.lp [] ⟨.normal,[6,5],⟨[a,a],[],[]⟩⟩ [⟨(.exit 0),[5],⟨[a],[],[]⟩⟩] .no) .no)) .no)))) (.nil _) fun _=>by kernel_rfl
def bv0 :FSum:=⟨285,[m],[],[⟨.ret,[],⟨[(.tup [a,a])],[],[]⟩⟩],ve⟩
theorem bz0 :Rt bv0:=rq ((.n .no (.n .no (.n .no (.n (.n .no (.n (.lp [] ⟨.normal,[5,4],⟨[a,a],[],[]⟩⟩ [⟨(.exit 0),[4],⟨[a],[],[]⟩⟩] .no) .no)) .no))))) (.cons ab3 (.cons aY6 (.nil _))) fun _=>by kernel_rfl
def bj3 :FSum:=⟨195,[m],[],[⟨.ret,[],⟨[(.tup [(.full 0),a])],[],[l]⟩⟩],ke⟩
theorem tx :Rt bj3:=rq ((.n .no (.n .no (.n .no (.n (.n .no (.n (.lp [] ⟨.normal,[5,4],⟨[a,o],[],[l]⟩⟩ [⟨(.exit 0),[4],⟨[o],[],[l]⟩⟩] .no) .no)) (.n (.n .no (.n (.lp [1] ⟨.normal,[6],⟨[a],[l],[]⟩⟩ [⟨(.exit 2),[],⟨[],[l],[]⟩⟩] (.n .no (.n (.n (.n .no (.n .no (.n .no (.n (.n (.lp [] ⟨.normal,[7,8],⟨[a,a],[],[]⟩⟩ [⟨(.exit 4),[8],⟨[a],[],[]⟩⟩] .no) .no) .no)))) .no) .no))) .no)) .no)))))) (.cons ab3 (.nil _)) fun _=>by kernel_rfl
def aI5 (n:Nat):FSum:=⟨197,[m,(.leaf (.list x)),a,a],[],[v],fun t=>(co n).1 t.1 t.2.1 t.2.2.1 t.2.2.2⟩
def aS1 (n:Nat):FSum:=⟨196,[m,(.leaf (.list x)),a],[],[v],fun t=>(co n).2 t.1 t.2.1 t.2.2⟩
theorem oi : ∀n,uW aB (aI5 n)∧uW aB (aS1 n)
 |0=>⟨lK (fun t=>rfl),lK (fun t=>rfl)⟩
 |n+1=>⟨rq ((.n .no (.n .no (.n (.n .no (.n (.lp [] ⟨.normal,[10,9],⟨[a,a],[],[]⟩⟩ [⟨.ret,[8],⟨[(.cint .i64 65537)],[],[]⟩⟩,⟨(.exit 0),[9],⟨[a],[],[]⟩⟩] .no) .no)) .no)))) (.cons (oi n).2 (.cons sr (.nil _))) (fun _=>by kernel_rfl),rq (.no) (.cons (oi n).1 (.nil _)) (fun _=>by kernel_rfl)⟩
def aW9 :FSum:=⟨197,[m,(.leaf (.list x)),a,a],[],[v],by exact u4 nr⟩
theorem aY7 :Rt aW9:=(oi 400).1
def bj4 :FSum:=⟨196,[m,(.leaf (.list x)),a],[],[v],by exact u3 mL⟩
theorem av0 :Rt bj4:=(oi 400).2
def aW8 :FSum:=⟨124,[m],[],[⟨.ret,[],⟨[(.tup [a,a])],[],[]⟩⟩],lx⟩
theorem wD :Rt aW8:=rq ((.n .no (.n .no (.n .no (.n (.n .no (.n (.lp [] ⟨.normal,[6],⟨[a],[],[]⟩⟩ [⟨.ret,[2,3],⟨[j,(.cint .i64 9)],[],[]⟩⟩,⟨(.exit 0),[],⟨[],[],[]⟩⟩] .no) .no)) .no))))) (.cons tx (.cons av0 (.cons aY7 (.nil _)))) fun _=>by kernel_rfl
def bv3 :FSum:=⟨248,[aa,a],[],[v],by exact u3 pE⟩
theorem aC1 :Rt bv3:=rq (.no) (.cons bz3 (.cons aC2 (.cons bz0 (.cons wD (.nil _))))) fun _=>by kernel_rfl
def bv4 :FSum:=⟨193,[aa,aa],[],[v],by exact u4 vg⟩
theorem bz2 :Rt bv4:=rq ((.n .no (.n (.n .no (.n (.lp [] ⟨.normal,[5],⟨[a],[],[]⟩⟩ [⟨.ret,[4],⟨[a],[],[]⟩⟩,⟨(.exit 0),[],⟨[],[],[]⟩⟩] .no) .no)) .no))) (.cons aC1 (.nil _)) fun _=>by kernel_rfl
def bv2 :FSum:=⟨194,[aa,aa,a,a],[],[v],by exact u6 pD⟩
theorem bz1 :Rt bv2:=rq (.no) (.nil _) fun _=>by kernel_rfl
def bk2 :FSum:=⟨123,[af],[],[v],by exact u9 qi⟩
theorem av2 :Rt bk2:=rq (.no) (.cons bz2 (.cons bz1 (.nil _))) fun _=>by kernel_rfl
def bU4 :FSum:=⟨56,[af],[],[⟨.ret,[],⟨[(.tup [a,a])],[],[]⟩⟩],by exact u9 nX⟩
theorem wE :Rt bU4:=rq (.no) (.cons av2 (.cons wD (.nil _))) fun _=>by kernel_rfl
def bi8 :FSum:=⟨10,[af],[],[y],by exact u9 qd⟩
theorem bl2 :Rt bi8:=rq (.no) (.cons bl1 (.cons wE (.nil _))) fun _=>by kernel_rfl
def aR9 :FSum:=⟨57,[],[],[⟨.ret,[],⟨[(.agg [(.cint .i64 1),(.full 0),o,(.cint .i64 3),w,(.cint .i64 2),NS,(.cint .i64 3),(.cint .i64 100)])],[],[(.cells 1 false [(.cint .u64 5)]),(.cells 1 false [(.cint .u64 2)]),(.cells 5 false [(.cint .i64 1),j,j,(.cint .i64 2),(.cint .u64 0)])]⟩⟩],fun _=>af0⟩
theorem aS8 :Rt aR9:=rq (.no) (.nil _) fun _=>by kernel_rfl
def bi6 :FSum:=⟨286,[p,a],[],[v],by exact u2 lg⟩
theorem yi :Rt bi6:=rq (.no) (.nil _) fun _=>by kernel_rfl
def ak1 :FSum:=⟨251,[af],[],[v],by exact u9 kr⟩
theorem al7 :Rt ak1:=rq (.no) (.cons yi (.nil _)) fun _=>by kernel_rfl
def bu5 :FSum:=⟨327,[m],[],[⟨.ret,[],⟨[(.tup [(.full 0),a])],[],[l]⟩⟩],mr⟩
theorem ab1 :Rt bu5:=i4 (ins:=[⟨337,gi aB 337 ⟨[],[⟨338,gi aB 338 ⟨[],[]⟩ .no⟩]⟩ (.n .no (.n .no (.n .no (.n .no (.n (.n .no (.n (.lp [1,3] ⟨.normal,[11,5,6],⟨[a,(.full 4),p],[l,(.cells 1 false [(.full 5)])],[l,l]⟩⟩ [⟨(.exit 0),[6,5],⟨[p,(.full 4)],[l,(.cells 1 false [(.full 5)])],[l,l]⟩⟩] (.n .no (.n .no (.n (.n (.n .no (.jn [] [4] [⟨(.exit 0),[6,5],⟨[p,(.full 7)],[],[l]⟩⟩,⟨.normal,[5,6],⟨[(.full 7),p],[],[l]⟩⟩] (.n (.jn [] [] [⟨.normal,[16],⟨[p],[],[]⟩⟩] .no .no) .no) .no)) .no) .no)))) .no)) .no)))))⟩]) (at':= .no) (.nil _) (bt.cons (cy (.nil _) (bt.cons (cy (.nil _) (bt.nil _)) (bt.nil _))) (bt.nil _)) fun _=>by kernel_rfl
def bu0 :FSum:=⟨326,[p,a],[],[v],by exact u2 i9⟩
theorem vx :Rt bu0:=rq (.no) (.nil _) fun _=>by kernel_rfl
def bH7 :FSum:=⟨339,[a],[],[⟨.ret,[],⟨[(.agg [p,p,p,p])],[],[]⟩⟩],qV⟩
theorem aO3 :Rt bH7:=rq ((.n .no (.n (.n .no (.n (.jn [] [] [⟨.normal,[4],⟨[p],[],[]⟩⟩] .no (.n .no (.jn [] [] [⟨.normal,[9],⟨[p],[],[]⟩⟩] .no .no))) .no)) .no))) (.nil _) fun _=>by kernel_rfl
def aW4 :FSum:=⟨362,[a],[],[y],wh⟩
theorem aY4 :Rt aW4:=rq (.no) (.nil _) fun _=>by kernel_rfl
def aB3 :FSum:=⟨363,[a,p],[],[y],by exact u2 kB⟩
theorem aB8 :Rt aB3:=rq (.no) (.nil _) fun _=>by kernel_rfl
def aW3 :FSum:=⟨354,[ap],[],[y],by exact u5 rO⟩
theorem aY3 :Rt aW3:=rq (.no) (.cons aO3 (.cons aY4 (.cons aB8 (.nil _)))) fun _=>by kernel_rfl
def zn :FSum:=⟨353,[ap],[],[y],by exact u5 nK⟩
theorem zV :Rt zn:=rq (.no) (.cons aY3 (.nil _)) fun _=>by kernel_rfl
def sg :FSum:=⟨364,[m,(.fn 353 [] [])],[],[v],jv⟩
theorem sy :Rt sg:=rq ((.n .no (.n (.n .no (.n (.lp [] ⟨.normal,[8],⟨[a],[],[]⟩⟩ [⟨.ret,[4],⟨[a],[],[]⟩⟩,⟨(.exit 0),[],⟨[],[],[]⟩⟩] .no) .no)) .no))) (.cons zV (.nil _)) fun _=>by kernel_rfl
def ql :FSum:=⟨355,[m,(.fn 353 [] [])],[],[y],i8⟩
theorem qo :Rt ql:=rq (.no) (.cons sy (.nil _)) fun _=>by kernel_rfl
def ph :FSum:=⟨344,[aa],[],[v],by exact u2 je⟩
theorem tQ :Rt ph:=rq (.no) (.cons ab1 (.cons vx (.cons qo (.nil _)))) fun _=>by kernel_rfl
def yd :FSum:=⟨365,[(.full 0)],[l],[⟨.ret,[],⟨[(.tup [])],[l],[]⟩⟩],cj⟩
theorem yl :Rt yd:=rq ((.n .no (.n (.lp [0] ⟨.normal,[2,3],⟨[a,a],[l],[]⟩⟩ [⟨(.exit 0),[],⟨[],[l],[]⟩⟩] .no) .no))) (.nil _) fun _=>by kernel_rfl
def aW2 :FSum:=⟨357,[ap],[],[⟨.ret,[],⟨[(.full 0)],[],[l]⟩⟩],by exact u5 rN⟩
theorem aY2 :Rt aW2:=rq ((.n .no (.n .no (.jn [] [] [⟨.normal,[3],⟨[o],[],[l]⟩⟩] (.n .no (.n (.jn [] [] [⟨.normal,[3],⟨[o],[],[l]⟩⟩,⟨(.exit 0),[3],⟨[NS],[],[]⟩⟩] (.n (.jn [] [] [⟨.normal,[],⟨[],[],[]⟩⟩,⟨(.exit 2),[],⟨[],[],[]⟩⟩,⟨(.exit 0),[],⟨[],[],[]⟩⟩] .no .no) .no) .no) .no)) .no)))) (.cons yl (.nil _)) fun _=>by kernel_rfl
def aS0 :FSum:=⟨330,[ap],[],[⟨.ret,[],⟨[(.tup [a,p])],[],[]⟩⟩],by exact u5 kG⟩
theorem af6 :Rt aS0:=rq (.no) (.cons aO3 (.nil _)) fun _=>by kernel_rfl
def tL :FSum:=⟨358,[a,g],[(.cells 1 true [a,m])],[y],by exact u3 kj⟩
theorem tR :Rt tL:=rq (.no) (.nil _) fun _=>by kernel_rfl
def wq :FSum:=⟨222,[(.leaf (.list x)),(.fn 358 [] [g])],[(.cells 1 true [a,m])],[v],by exact u3 lB⟩
theorem wF :Rt wq:=rq ((.n .no (.n (.n .no (.n (.lp [] ⟨.normal,[8],⟨[a],[],[]⟩⟩ [⟨.ret,[4],⟨[a],[],[]⟩⟩,⟨(.exit 0),[],⟨[],[],[]⟩⟩] .no) .no)) .no))) (.cons tR (.nil _)) fun _=>by kernel_rfl
def tO :FSum:=⟨170,[(.leaf (.list x)),(.fn 358 [] [g])],[(.cells 1 true [a,m])],[y],by exact u3 fm⟩
theorem tW :Rt tO:=rq (.no) (.cons wF (.nil _)) fun _=>by kernel_rfl
def vw :FSum:=⟨356,[ap,g],[(.cells 1 true [a,m])],[y],by exact u7 ji⟩
theorem vy :Rt vw:=rq ((.n .no (.n .no (.jn [] [2] [⟨.normal,[4],⟨[(.full 3)],[],[l]⟩⟩] .no .no)))) (.cons aY2 (.cons af6 (.cons tW (.nil _)))) fun _=>by kernel_rfl
def qP :FSum:=⟨364,[m,(.fn 356 [] [g])],[(.cells 1 true [a,m])],[v],by exact u3 ja⟩
theorem qQ :Rt qP:=rq ((.n .no (.n (.n .no (.n (.lp [] ⟨.normal,[8],⟨[a],[],[]⟩⟩ [⟨.ret,[4],⟨[a],[],[]⟩⟩,⟨(.exit 0),[],⟨[],[],[]⟩⟩] .no) .no)) .no))) (.cons vy (.nil _)) fun _=>by kernel_rfl
def pM :FSum:=⟨355,[m,(.fn 356 [] [g])],[(.cells 1 true [a,m])],[y],by exact u3 io⟩
theorem pO :Rt pM:=rq (.no) (.cons qQ (.nil _)) fun _=>by kernel_rfl
def mb :FSum:=⟨345,[aa],[],[v],by exact u2 fq⟩
theorem pV :Rt mb:=rq (.no) (.cons vx (.cons pO (.nil _))) fun _=>by kernel_rfl
def bH6 :FSum:=⟨359,[m],[],[⟨.ret,[],⟨[(.tup [a,a])],[],[]⟩⟩],xu⟩
theorem bJ1 :Rt bH6:=i4 (ins:=[⟨337,gi aB 337 ⟨[],[⟨366,gi aB 366 ⟨[],[]⟩ .no⟩]⟩ (.n .no (.n .no (.n .no (.n .no (.n (.n .no (.n (.lp [1] ⟨.normal,[11,5,6],⟨[a,w,p],[(.cells 1 false [a])],[l]⟩⟩ [⟨(.exit 0),[6,5],⟨[p,w],[(.cells 1 false [a])],[l]⟩⟩] (.n .no (.n .no (.n (.n (.n .no (.jn [] [2] [⟨(.exit 0),[6,5],⟨[p,(.full 4)],[],[l]⟩⟩,⟨.normal,[5,6],⟨[(.full 4),p],[],[l]⟩⟩] (.n (.jn [] [] [⟨.normal,[16],⟨[p],[],[]⟩⟩] .no .no) .no) .no)) .no) .no)))) .no)) .no)))))⟩]) (at':= .no) (.nil _) (bt.cons (cy (.nil _) (bt.cons (cy (.nil _) (bt.nil _)) (bt.nil _))) (bt.nil _)) fun _=>by kernel_rfl
def oJ :FSum:=⟨346,[aa],[],[v],by exact u2 iy⟩
theorem sO :Rt oJ:=rq (.no) (.cons bJ1 (.cons vx (.nil _))) fun _=>by kernel_rfl
def by1 :FSum:=⟨328,[a,c],[],[⟨.ret,[],⟨[(.tup [a,p])],[],[]⟩⟩],by exact u2 se⟩
theorem bA7 :Rt by1:=rq (.no) (.nil _) fun _=>by kernel_rfl
def bU6 :FSum:=⟨329,[(.leaf (.list x))],[],[v],wk⟩
theorem bV2 :Rt bU6:=rq ((.n .no (.n .no (.n (.n .no (.n (.lp [] ⟨.normal,[8,3],⟨[a,a],[],[]⟩⟩ [⟨(.exit 0),[3],⟨[a],[],[]⟩⟩] .no) .no)) .no)))) (.nil _) fun _=>by kernel_rfl
def aX7 :FSum:=⟨292,[m],[],[⟨.ret,[],⟨[(.tup [(.full 0),o,a,a])],[],[l,l]⟩⟩],lA⟩
theorem am2 :Rt aX7:=rq ((.n .no (.n .no (.n (.dr [0,1,3,4,2,6,5,7]) (.n .no (.n .no (.n (.n .no (.n (.lp [1,2] ⟨.normal,[34,8,5],⟨[a,(.full 4),j],[l,l],[(.arr false (.pair x x))]⟩⟩ [⟨(.exit 0),[5,8],⟨[a,(.full 4)],[l,l],[(.arr false (.pair x x))]⟩⟩] .no) .no)) (.jn [] [] [⟨.normal,[5],⟨[a],[],[]⟩⟩] .no .no)))))))) (.cons ab1 (.cons bA7 (.cons af6 (.cons bV2 (.nil _))))) fun _=>by kernel_rfl
def au7 :FSum:=⟨261,[m],[],[⟨.ret,[],⟨[(.tup [a,a])],[],[]⟩⟩],i7⟩
theorem qm :Rt au7:=rq (.no) (.cons am2 (.nil _)) fun _=>by kernel_rfl
def ob :FSum:=⟨347,[aa],[],[v],by exact u2 ig⟩
theorem si :Rt ob:=rq (.no) (.cons qm (.nil _)) fun _=>by kernel_rfl
def bt9 :FSum:=⟨287,[aa,aa],[],[v],by exact u4 vc⟩
theorem by6 :Rt bt9:=i4 (ins:=[⟨325,gi aB 325 ⟨[ph,mb,oJ,ob],[⟨336,gi aB 336 ⟨[],[]⟩ .no⟩]⟩ (.n .no (.n .no (.n (.n .no (.n (.n .no (.n .no (.n .no .no))) .no)) (.n (.n .no (.n (.n (.n .no (.n .no (.n (.n (.n .no (.n .no (.n (.n .no (.n .no (.n .no .no))) .no))) .no) .no))) (.n (.n .no (.n .no (.n (.n (.n .no (.n .no (.n (.n .no (.n .no (.n .no .no))) .no))) .no) .no))) (.n (.n .no (.n .no (.n (.n (.n .no (.n .no (.n (.n .no (.n .no (.n .no .no))) .no))) .no) .no))) (.n (.n .no (.n .no (.n (.n (.n .no (.n .no (.n (.n .no (.n .no (.n .no .no))) .no))) .no) .no))) (.n .no .no))))) .no)) .no))))⟩]) (at':= .no) (.nil _) (bt.cons (cy (.cons tQ (.cons pV (.cons sO (.cons si (.nil _))))) (bt.cons (cy (.nil _) (bt.nil _)) (bt.nil _))) (bt.nil _)) fun _=>by kernel_rfl
def ya :FSum:=⟨252,[af],[],[v],by exact u9 i5⟩
theorem yj :Rt ya:=rq (.no) (.cons by6 (.nil _)) fun _=>by kernel_rfl
def bt8 :FSum:=⟨288,[aa,aa,a,a],[],[v],by exact u6 rE⟩
theorem by5 :Rt bt8:=rq ((.n .no (.jn [] [] [⟨.normal,[9],⟨[p],[],[]⟩⟩] .no .no))) (.cons vx (.nil _)) fun _=>by kernel_rfl
def ak0 :FSum:=⟨253,[af],[],[v],by exact u9 kq⟩
theorem al6 :Rt ak0:=rq (.no) (.cons by5 (.nil _)) fun _=>by kernel_rfl
def zO :FSum:=⟨254,[af],[],[v],by exact u9 jt⟩
theorem aa6 :Rt zO:=rq ((.n .no (.n .no (.jn [] [] [⟨.normal,[3],⟨[a],[],[]⟩⟩] .no .no)))) (.cons yi (.nil _)) fun _=>by kernel_rfl
def zN :FSum:=⟨255,[af],[],[v],by exact u9 jr⟩
theorem aa5 :Rt zN:=rq (.no) (.cons yi (.nil _)) fun _=>by kernel_rfl
def aV7 :FSum:=⟨198,[af],[],[v],by exact u9 pa⟩
theorem al5 :Rt aV7:=rq ((.n .no (.n .no (.n (.n .no (.n (.lp [] ⟨.normal,[20],⟨[a],[],[]⟩⟩ [⟨.ret,[2],⟨[a],[],[]⟩⟩,⟨(.exit 0),[],⟨[],[],[]⟩⟩] .no) .no)) .no)))) (.cons al7 (.cons yj (.cons al6 (.cons aa6 (.cons aa5 (.nil _)))))) fun _=>by kernel_rfl
def ch5 :FSum:=⟨213,[af],[],[⟨.ret,[],⟨[(.tup [a,a])],[],[]⟩⟩],by exact u9 lm⟩
theorem pN :Rt ch5:=rq (.no) (.cons al5 (.cons qm (.nil _))) fun _=>by kernel_rfl
def bu6 :FSum:=⟨199,[af],[],[⟨.ret,[],⟨[(.agg [a,a,a,a,a,a,a,a,a])],[],[]⟩⟩],by exact u9 rQ⟩
theorem aB9 :Rt bu6:=rq ((.n .no (.n .no (.n .no (.n .no (.jn [] [] [⟨.normal,[7,8],⟨[a,a],[],[]⟩⟩] .no .no)))))) (.cons pN (.nil _)) fun _=>by kernel_rfl
def bU1 :FSum:=⟨201,[(.agg [a,a,a,a,a,a,a,a,a]),a],[],[⟨.ret,[],⟨[(.full 0)],[],[l]⟩⟩],by exact u10 wj⟩
theorem aY5 :Rt bU1:=i4 (ins:=[⟨256,gi aB 256 ⟨[],[]⟩ .no⟩]) (at':=(.n .no (.n .no (.n .no (.n .no (.n (.n .no (.n (.lp [1] ⟨.normal,[10,7],⟨[a,w],[(.cells 1 false [a])],[l]⟩⟩ [⟨(.exit 0),[7],⟨[w],[(.cells 1 false [a])],[l]⟩⟩] .no) .no)) .no)))))) (.nil _) (bt.cons (cy (.nil _) (bt.nil _)) (bt.nil _)) fun _=>by kernel_rfl
def bH9 :FSum:=⟨200,[(.agg [a,a,a,a,a,a,a,a,a]),a],[],[v],by exact u10 tI⟩
theorem bJ2 :Rt bH9:=rq (.no) (.cons aY5 (.nil _)) fun _=>by kernel_rfl
def bH8 :FSum:=⟨125,[af],[],[⟨.ret,[],⟨[(.tup [(.agg [a,a,a,a]),a])],[],[]⟩⟩],by exact u9 qW⟩
theorem aO4 :Rt bH8:=rq ((.n .no (.n .no (.n .no (.n .no (.jn [] [] [⟨.normal,[6],⟨[a],[],[]⟩⟩] .no (.n .no (.n .no (.n (.n .no (.n (.lp [3] ⟨.normal,[35],⟨[a],[(.cells 1 false [a,a,a,a])],[]⟩⟩ [⟨(.exit 0),[],⟨[],[(.cells 1 false [a,a,a,a])],[]⟩⟩] .no) .no)) .no))))))))) (.cons al5 (.cons aB9 (.cons bJ2 (.nil _)))) fun _=>by kernel_rfl
def uz :FSum:=⟨126,[.leaf bf],[],wK am,ge⟩
theorem uC :Rt uz:=an0 (es:=5) (bytes:=40) (z:=[(.int .i64 0),(.int .i64 0),(.int .i64 0),(.int .i64 0),(.int .u64 0)]) (s:=am) (by kernel_rfl) (fun _=>by kernel_rfl) (fun _=>by kernel_rfl) (by kernel_rfl)
def kK :FSum:=⟨116,[.leaf bc],[],wK ax,cd⟩
theorem gf :Rt kK:=an0 (es:=1) (bytes:=8) (z:=[(.int .u64 0)]) (s:=ax) (by kernel_rfl) (fun _=>by kernel_rfl) (fun _=>by kernel_rfl) (by kernel_rfl)
def bi9 :FSum:=⟨127,[af],[],[⟨.ret,[],⟨[(.tup [(.full 0),a])],[],[l]⟩⟩],by exact u9 oF⟩
theorem bl3 :Rt bi9:=rq (.no) (.cons aO4 (.cons aB9 (.cons aY5 (.nil _)))) fun _=>by kernel_rfl
def bi4 :FSum:=⟨59,[af],[],[⟨.ret,[],⟨[(.tup [.nilp,a])],[],[]⟩⟩,⟨.ret,[],⟨[(.tup [g,j])],[],[(.cells 1 false [a,a,a,a,a,o,w,a,(.full 3),a,(.full 4),a,a,(.full 5), .nilp, .nilp, .nilp,a,j,(.cint .i64 (-1)),j,j,j,j,(.cint .u64 0)]),b,b,(.arr false am),(.arr false am),l]⟩⟩],by exact u9 oE⟩
theorem bk9 :Rt bi4:=rq (.no) (.cons aO4 (.cons uC (.cons gf (.cons bl3 (.nil _))))) fun _=>by kernel_rfl
def bi3 :FSum:=⟨128,[a],[],[v],xS⟩
theorem bk8 :Rt bi3:=rq (.no) (.nil _) fun _=>by kernel_rfl
def bH3 :FSum:=⟨60,[a],[],[⟨.ret,[],⟨[(.tup [g,j])],[],[(.cells 1 false [o,j]),b]⟩⟩],tF⟩
theorem bI9 :Rt bH3:=rq (.no) (.cons bk8 (.nil _)) fun _=>by kernel_rfl
def bU0 :FSum:=⟨129,[a,a,a],[],[⟨.ret,[],⟨[(.tup [.nilp,(.cint .i64 2)])],[],[]⟩⟩,⟨.ret,[],⟨[(.tup [g,j])],[],[q]⟩⟩],by exact u3 aw0⟩
theorem bU9 :Rt bU0:=rq (.no) (.nil _) fun _=>by kernel_rfl
def bH5 :FSum:=⟨61,[a],[],[⟨.ret,[],⟨[(.tup [g,j])],[],[q]⟩⟩],xr⟩
theorem bJ0 :Rt bH5:=rq (.no) (.cons bU9 (.nil _)) fun _=>by kernel_rfl
def zT :FSum:=⟨130,[g,a,a],[r],[y],by exact u5 nT⟩
theorem ab0 :Rt zT:=rq (.no) (.nil _) fun _=>by kernel_rfl
def au1 :FSum:=⟨131,[g,a],[q],[⟨.ret,[],⟨[(.tup [])],[q],[]⟩⟩],by exact u4 kR⟩
theorem uV :Rt au1:=rq (.no) (.nil _) fun _=>by kernel_rfl
def lE :FSum:=⟨62,[g,a],[q],[⟨.ret,[],⟨[a],[q],[]⟩⟩],by exact u4 eu⟩
theorem jb :Rt lE:=rq (.no) (.cons ab0 (.cons uV (.nil _))) fun _=>by kernel_rfl
def aw1 :FSum:=⟨132,[g],[(.cells 1 true [o,a]),d],[v],by exact u2 qK⟩
theorem ax1 :Rt aw1:=rq (.no) (.nil _) fun _=>by kernel_rfl
def aw2 :FSum:=⟨63,[g,a],[(.cells 1 false [o,a]),d],[⟨.ret,[],⟨[(.tup [a,a])],[(.cells 1 false [o,a])],[]⟩⟩],by exact u3 fy⟩
theorem wy :Rt aw2:=rq (.no) (.cons ax1 (.nil _)) fun _=>by kernel_rfl
def yA :FSum:=⟨64,[g],[aj,d,d,h,h,k,ab,r,d],[y],by exact u27 gq⟩
theorem rf :Rt yA:=rq (.no) (.nil _) fun _=>by kernel_rfl
def aB5 :FSum:=⟨133,[(.agg [a,a,a])],[],[y],by exact u3 sf⟩
theorem aD2 :Rt aB5:=rq (.no) (.nil _) fun _=>by kernel_rfl
def wu :FSum:=⟨134,[(.agg [a,a,a])],[],[v],by exact u3 gx⟩
theorem qR :Rt wu:=rq (.no) (.nil _) fun _=>by kernel_rfl
def pX :FSum:=⟨135,[g,a,i],[(.cells 1 true [o,a]),b],[⟨.ret,[],⟨[a],[b],[]⟩⟩],by exact u4 ff⟩
theorem jw :Rt pX:=i4 (ins:=[⟨202,gi aB 202 ⟨[],[⟨203,gi aB 203 ⟨[],[]⟩ .no⟩]⟩ .no⟩]) (at':= .no) (.nil _) (bt.cons (cy (.nil _) (bt.cons (cy (.nil _) (bt.nil _)) (bt.nil _))) (bt.nil _)) fun _=>by kernel_rfl
def bI6 :FSum:=⟨65,[g,a,a],[(.cells 1 false [o,a]),b],[⟨.ret,[],⟨[(.tup [(.ptr 2 0),j])],[(.cells 1 false [o,a]),b],[(.cells 1 false [a,a,a,g])]⟩⟩],by exact u4 ai8⟩
theorem bJ5 :Rt bI6:=rq (.no) (.cons aD2 (.cons qR (.cons wy (.cons jw (.nil _))))) fun _=>by kernel_rfl
def wo :FSum:=⟨66,[g,a,i],[aj,d,d,h,h,k,ab,r,b],[⟨.ret,[],⟨[(.tup [])],[b],[]⟩⟩],by exact u29 bv⟩
theorem jT :Rt wo:=rq (.no) (.cons jw (.nil _)) fun _=>by kernel_rfl
def aj6 :FSum:=⟨66,[g,a,i],[ak,d,d,h,h,k,ac,ad,r,b],[⟨.ret,[],⟨[(.tup [])],[b],[]⟩⟩],by exact u32 cf⟩
theorem gz :Rt aj6:=rq (.no) (.cons jw (.nil _)) fun _=>by kernel_rfl
def bH4 :FSum:=⟨12,[af],[],[⟨.ret,[],⟨[(.tup [.nilp,a])],[],[]⟩⟩,⟨.ret,[],⟨[(.tup [g,j])],[],[(.cells 1 false [a,a,a,a,a,o,w,a,(.full 3),a,(.full 4),a,a,(.full 5),az, .nilp,aq,a,j,(.cint .i64 (-1)),j,j,j,j,(.cint .u64 0)]),b,b,(.arr false am),(.arr false am),l,(.cells 1 false [(.full 8),a]),q,b]⟩⟩,⟨.ret,[],⟨[(.tup [g,j])],[],[(.cells 1 false [a,a,a,a,a,o,w,a,(.full 3),a,(.full 4),a,a,(.full 5),az,aq,(.ptr 8 0),a,j,(.cint .i64 (-1)),j,j,j,j,(.cint .u64 0)]),b,b,(.arr false am),(.arr false am),l,(.cells 1 false [(.full 9),a]),(.cells 1 false [a,a,a,az]),q,b]⟩⟩],by exact u9 mq⟩
theorem aO2 :Rt bH4:=rq ((.n .no (.n .no (.n .no (.n .no (.n .no (.n .no (.n .no (.jn [1,7,8] [] [⟨.normal,[],⟨[],[(.cells 1 false [a,a,a,a,a,w,(.full 3),a,(.full 4),a,(.full 5),a,a,(.full 6),aq, .nilp,(.ptr 9 0),a,j,(.cint .i64 (-1)),j,j,j,j,(.cint .u64 0)]),(.cells 1 false [(.full 8),a]),b],[]⟩⟩,⟨.normal,[],⟨[],[(.cells 1 false [a,a,a,a,a,w,(.full 3),a,(.full 4),a,(.full 5),a,a,(.full 6),aq,(.ptr 10 0),(.ptr 9 0),a,j,(.cint .i64 (-1)),j,j,j,j,(.cint .u64 0)]),(.cells 1 false [(.full 8),a]),b],[(.cells 1 false [a,a,a,aq])]⟩⟩] .no .no))))))))) (.cons bk9 (.cons bI9 (.cons bJ0 (.cons jb (.cons wy (.cons rf (.cons bJ5 (.cons jT (.cons gz (.nil _)))))))))) fun _=>by kernel_rfl
def wm :FSum:=⟨165,[g,a,a],[(.cells 1 true [o,a]),d],[⟨.ret,[],⟨[(.tup [w,a])],[],[b]⟩⟩],by exact u4 gv⟩
theorem og :Rt wm:=i4 (ins:=[⟨202,gi aB 202 ⟨[],[⟨219,gi aB 219 ⟨[kK],[]⟩ .no⟩]⟩ .no⟩]) (at':= .no) (.nil _) (bt.cons (cy (.nil _) (bt.cons (cy (.cons gf (.nil _)) (bt.nil _)) (bt.nil _))) (bt.nil _)) fun _=>by kernel_rfl
def oc :FSum:=⟨95,[g,a],[aj,d,d,h,h,k,ab,r,d],[⟨.ret,[],⟨[(.full 9)],[],[b]⟩⟩],by exact u28 cn⟩
theorem gy :Rt oc:=rq (.no) (.cons og (.nil _)) fun _=>by kernel_rfl
def tN :FSum:=⟨262,[(.leaf bb)],[],[⟨.ret,[],⟨[(.full 0)],[],[b]⟩⟩],fj⟩
theorem nH :Rt tN:=i4 (ins:=[⟨293,gi aB 293 ⟨[],[]⟩ .no⟩]) (at':=(.n .no (.n .no (.n (.n .no (.n (.lp [] ⟨.normal,[11,3],⟨[a,a],[],[]⟩⟩ [⟨(.exit 0),[3],⟨[a],[],[]⟩⟩] .no) .no)) (.n .no (.n (.n .no (.n (.sz 0 (.lp [] ⟨.normal,[27,6],⟨[a,(.full 0)],[],[b]⟩⟩ [⟨(.exit 2),[6],⟨[(.full 0)],[],[b]⟩⟩] .no) (.lp [] ⟨.normal,[27,6],⟨[a,o],[],[b]⟩⟩ [⟨(.exit 2),[6],⟨[o],[],[b]⟩⟩] .no)) .no)) .no)))))) (.nil _) (bt.cons (cy (.nil _) (bt.nil _)) (bt.nil _)) fun _=>by kernel_rfl
def aj3 :FSum:=⟨214,[g,aa,i,i],[aj,d,d,h,h,k,ab,r,d],[⟨.ret,[],⟨[(.full 9)],[],[b]⟩⟩],by exact u31 kl⟩
theorem tT :Rt aj3:=rq (.no) (.cons gy (.cons nH (.nil _))) fun _=>by kernel_rfl
def aR6 :FSum:=⟨331,[aa],[],[v],by exact u2 qy⟩
theorem aS5 :Rt aR6:=i4 (ins:=[⟨325,gi aB 325 ⟨[ph,mb,oJ,ob],[⟨336,gi aB 336 ⟨[],[]⟩ .no⟩]⟩ (.n .no (.n .no (.n (.n .no (.n (.n .no (.n .no .no)) .no)) (.n (.n .no (.n (.n (.n .no (.n .no (.n (.n (.n .no (.n .no (.n (.n .no (.n .no .no)) .no))) .no) .no))) (.n (.n .no (.n .no (.n (.n (.n .no (.n .no (.n (.n .no (.n .no .no)) .no))) .no) .no))) (.n (.n .no (.n .no (.n (.n (.n .no (.n .no (.n (.n .no (.n .no .no)) .no))) .no) .no))) (.n (.n .no (.n .no (.n (.n (.n .no (.n .no (.n (.n .no (.n .no .no)) .no))) .no) .no))) (.n .no .no))))) .no)) .no))))⟩]) (at':= .no) (.nil _) (bt.cons (cy (.cons tQ (.cons pV (.cons sO (.cons si (.nil _))))) (bt.cons (cy (.nil _) (bt.nil _)) (bt.nil _))) (bt.nil _)) fun _=>by kernel_rfl
def by0 :FSum:=⟨332,[m],[],[⟨.ret,[],⟨[(.tup [(.full 0),a])],[],[l]⟩⟩],zk⟩
theorem bA6 :Rt by0:=rq (.no) (.cons am2 (.nil _)) fun _=>by kernel_rfl
def aN8 :FSum:=⟨294,[aa],[],[⟨.ret,[],⟨[(.tup [(.full 0),a])],[],[(.arr false ar)]⟩⟩],by exact u2 oZ⟩
theorem xE :Rt aN8:=rq ((.n .no (.n .no (.n .no (.n .no (.n .no (.n .no (.n (.n .no (.n (.lp [] ⟨.normal,[11,10,9],⟨[a,(.full 3),(.full 4)],[],[l,(.arr false ar)]⟩⟩ [⟨(.exit 0),[9],⟨[(.full 3)],[],[(.arr false ar)]⟩⟩] (.n .no (.n (.n (.n .no (.jn [] [3,4] [⟨(.exit 1),[11,10,9],⟨[a,(.full 6),(.full 7)],[],[l,(.arr false ar)]⟩⟩,⟨.normal,[9,11,10],⟨[(.full 6),a,(.full 7)],[],[(.arr false ar),l]⟩⟩] (.n (.jn [] [] [⟨.normal,[43],⟨[p],[],[]⟩⟩] .no .no) .no) .no)) .no) .no))) .no)) .no)))))))) (.cons aS5 (.cons ab1 (.cons bA6 (.nil _)))) fun _=>by kernel_rfl
def by3 :FSum:=⟨263,[aa,i,i],[],[⟨.ret,[],⟨[(.tup [(.full 0),a])],[],[(.arr false ar)]⟩⟩],by exact u4 zl⟩
theorem bA8 :Rt by3:=rq (.no) (.cons xE (.cons qm (.nil _))) fun _=>by kernel_rfl
def aW1 :FSum:=⟨295,[ap,c,c],[],[⟨.ret,[],⟨[c],[],[]⟩⟩],by exact u7 pe⟩
theorem al9 :Rt aW1:=rq (.no) (.nil _) fun _=>by kernel_rfl
def bI7 :FSum:=⟨264,[(.full 0),o,w],[(.arr true ar),b,b],[⟨.ret,[],⟨[a],[b,b],[]⟩⟩],by exact u3 xA⟩
theorem bJ6 :Rt bI7:=rq ((.n .no (.n .no (.n .no (.n (.lp [1,2,3] ⟨.normal,[8,10,9],⟨[a,a,a],[b,b,ba],[]⟩⟩ [⟨.ret,[6],⟨[a],[b,b,ba],[]⟩⟩] .no) .no))))) (.cons al9 (.nil _)) fun _=>by kernel_rfl
def bk7 :FSum:=⟨215,[(.agg [a,(.full 0)]),o,w],[h,b,b],[⟨.ret,[],⟨[(.tup [a,a])],[b,b],[]⟩⟩],by exact u4 mO⟩
theorem tA :Rt bk7:=rq (.no) (.cons bA8 (.cons bJ6 (.nil _))) fun _=>by kernel_rfl
def aj9 :FSum:=⟨162,[g],[ah,d,d,h,h,k,ab,r,b],[⟨.ret,[],⟨[(.tup [(.full 9),(.full 10)])],[ah,b],[b,b]⟩⟩],by exact u27 mp⟩
theorem al4 :Rt aj9:=rq ((.n .no (.n .no (.n (.dr [0,1,2,3,4,5,6,8,9,10,11,12,15,1013,1016,7,13,1016,14,17,16,18]) .no)))) (.cons pN (.cons gy (.cons tT (.cons tA (.cons jT (.nil _)))))) fun _=>by kernel_rfl
def aj7 :FSum:=⟨163,[g,a],[aj,d,d,h,h,k,ab,r,d],[v],by exact u28 ko⟩
theorem al2 :Rt aj7:=rq (.no) (.nil _) fun _=>by kernel_rfl
def aB2 :FSum:=⟨221,[aa,i],[],[⟨.ret,[],⟨[(.full 0)],[],[b]⟩⟩],by exact u3 nN⟩
theorem vz :Rt aB2:=rq (.no) (.cons gf (.nil _)) fun _=>by kernel_rfl
def xB :FSum:=⟨340,[ap,c,c],[],[⟨.ret,[],⟨[(.tup [c,c])],[],[]⟩⟩],by exact u7 mt⟩
theorem xF :Rt xB:=rq (.no) (.nil _) fun _=>by kernel_rfl
def aw8 :FSum:=⟨333,[(.agg [(.full 0),o,w]),ap,a],[b,b,d],[⟨.ret,[],⟨[(.tup [])],[b,b],[]⟩⟩],by exact u9 nZ⟩
theorem ax7 :Rt aw8:=rq (.no) (.cons xF (.nil _)) fun _=>by kernel_rfl
def aw7 :FSum:=⟨296,[(.agg [(.full 0),o,w]),(.full 3),a],[b,b,d,(.arr true ar)],[⟨.ret,[],⟨[(.tup [])],[b,b],[]⟩⟩],by exact u5 nY⟩
theorem ax6 :Rt aw7:=rq ((.n .no (.n .no (.n .no (.n (.lp [0,1,5] ⟨.normal,[7,8,2],⟨[a,a,a],[b,b,ba],[]⟩⟩ [⟨.ret,[],⟨[],[b,b,ba],[]⟩⟩] .no) .no))))) (.cons ax7 (.nil _)) fun _=>by kernel_rfl
def by2 :FSum:=⟨265,[(.agg [a,(.full 0)]),o,w,(.full 3)],[h,b,b,d],[⟨.ret,[],⟨[a],[b,b],[]⟩⟩],by exact u5 pL⟩
theorem ab6 :Rt by2:=rq (.no) (.cons xE (.cons qm (.cons ax6 (.nil _)))) fun _=>by kernel_rfl
def at7 :FSum:=⟨220,[g,(.agg [a,o]),w,(.full 3),(.full 4)],[(.cells 1 false [a,a,a,a,a,(.full 5),(.full 6),a,(.full 7),a,o,a,a,(.full 8),(.ptr 9 0), .nilp,(.ptr 10 0),a,a,a,a,a,a,a,c]),h,b,b,d,d,d,h,k,(.cells 1 true [(.full 11),a]),r,b],[⟨.ret,[],⟨[(.tup [])],[(.cells 1 false [a,a,a,a,a,(.full 5),(.full 6),a,(.full 7),a,o,a,a,(.full 8),(.ptr 9 0), .nilp,(.ptr 10 0),a,a,a,a,a,a,a,c]),b,b,b],[]⟩⟩],by exact u31 na⟩
theorem au3 :Rt at7:=rq ((.n .no (.n .no (.n .no (.n .no (.n .no (.n .no (.n (.n .no (.n (.lp [13] ⟨.normal,[36],⟨[a],[b],[]⟩⟩ [⟨(.exit 0),[],⟨[],[b],[]⟩⟩] .no) .no)) .no)))))))) (.cons ab6 (.cons jT (.cons gy (.nil _)))) fun _=>by kernel_rfl
def wn :FSum:=⟨218,[g,i],[ah,d,d,h,h,k,ab,r,b],[⟨.ret,[],⟨[(.tup [])],[ah,b],[]⟩⟩],by exact u28 nL⟩
theorem ax3 :Rt wn:=rq ((.n .no (.n (.dr [0,1,2,3,4,5,6,8,1009,7,10,9,11]) .no))) (.cons pN (.cons tT (.cons tA (.cons jT (.cons vz (.cons au3 (.nil _))))))) fun _=>by kernel_rfl
def lD :FSum:=⟨167,[g,a],[q],[⟨.ret,[],⟨[a],[q],[]⟩⟩],by exact u4 dj⟩
theorem jU :Rt lD:=rq (.no) (.cons uV (.nil _)) fun _=>by kernel_rfl
def au0 :FSum:=⟨164,[g,a],[ah,d,d,h,h,k,ab,q,b],[⟨.ret,[],⟨[(.tup [])],[ah,q,b],[]⟩⟩],by exact u28 kQ⟩
theorem uT :Rt au0:=i4 (ins:=[⟨216,gi aB 216 ⟨[lE,lD],[⟨217,gi aB 217 ⟨[oc,wn],[]⟩ .no⟩]⟩ .no⟩]) (at':= .no) (.cons pN (.nil _)) (bt.cons (cy (.cons jb (.cons jU (.nil _))) (bt.cons (cy (.cons gy (.cons ax3 (.nil _))) (bt.nil _)) (bt.nil _))) (bt.nil _)) fun _=>by kernel_rfl
def aj5 :FSum:=⟨90,[g,(.agg [a,a])],[ah,d,d,h,h,k,ab,q,b],[⟨.ret,[],⟨[a],[ah,q,b],[]⟩⟩],by exact u29 mn⟩
theorem al1 :Rt aj5:=i4 (ins:=[⟨166,gi aB 166 ⟨[oc,aB2],[⟨220,gi aB 220 ⟨[wo,oc],[⟨265,gi aB 265 ⟨[aN8,au7],[⟨296,gi aB 296 ⟨[],[⟨333,gi aB 333 ⟨[xB],[]⟩ .no⟩]⟩ (.n .no (.n .no (.n .no (.n (.lp [10,12,17] ⟨.normal,[7,8,2],⟨[a,a,a],[b,b,ba],[]⟩⟩ [⟨.ret,[],⟨[],[b,b,ba],[]⟩⟩] .no) .no))))⟩]⟩ .no⟩]⟩ (.n .no (.n .no (.n .no (.n .no (.n .no (.n .no (.n (.n .no (.n (.sz 1019 (.lp [18] ⟨.normal,[36],⟨[a],[b],[]⟩⟩ [⟨(.exit 0),[],⟨[],[b],[]⟩⟩] .no) (.lp [16] ⟨.normal,[36],⟨[a],[b],[]⟩⟩ [⟨(.exit 0),[],⟨[],[b],[]⟩⟩] .no)) .no)) .no)))))))⟩]⟩ .no⟩]) (at':=(.n .no (.jn [] [] [⟨.normal,[5],⟨[p],[],[]⟩⟩] .no (.jn [] [] [⟨.ret,[4],⟨[a],[],[]⟩⟩,⟨.normal,[],⟨[],[],[]⟩⟩] (.n (.jn [] [] [⟨.normal,[19],⟨[p],[],[]⟩⟩] .no (.n .no (.jn [] [] [⟨.normal,[32],⟨[p],[],[]⟩⟩] .no .no))) .no) .no)))) (.cons jb (.cons al4 (.cons al2 (.cons jw (.cons jT (.cons uT (.cons og (.cons jU (.nil _))))))))) (bt.cons (cy (.cons gy (.cons vz (.nil _))) (bt.cons (cy (.cons jT (.cons gy (.nil _))) (bt.cons (cy (.cons xE (.cons qm (.nil _))) (bt.cons (cy (.nil _) (bt.cons (cy (.cons xF (.nil _)) (bt.nil _)) (bt.nil _))) (bt.nil _))) (bt.nil _))) (bt.nil _))) (bt.nil _)) fun _=>by kernel_rfl
def aw6 :FSum:=⟨96,[.nilp],[],[⟨.ret,[],⟨[NS],[],[]⟩⟩],fun _=>wl⟩
theorem ax5 :Rt aw6:=rq (.no) (.nil _) fun _=>by kernel_rfl
def at6 :FSum:=⟨29,[g],[aj,d,d,h,h,k,ab,r,d],[⟨.ret,[],⟨[(.agg [a,a,NS])],[],[]⟩⟩],by exact u27 mZ⟩
theorem uS :Rt at6:=rq (.no) (.cons ax5 (.nil _)) fun _=>by kernel_rfl
def aW0 :FSum:=⟨169,[a],[],[y],we⟩
theorem aY1 :Rt aW0:=rq (.no) (.nil _) fun _=>by kernel_rfl
def aV9 :FSum:=⟨168,[a,g],[(.cells 1 true [a])],[y],by exact u2 nh⟩
theorem al8 :Rt aV9:=rq (.no) (.nil _) fun _=>by kernel_rfl
def uA :FSum:=⟨222,[(.leaf (.list x)),(.fn 168 [] [g])],[(.cells 1 true [a])],[v],by exact u2 kJ⟩
theorem uD :Rt uA:=rq ((.n .no (.n (.n .no (.n (.lp [] ⟨.normal,[8],⟨[a],[],[]⟩⟩ [⟨.ret,[4],⟨[a],[],[]⟩⟩,⟨(.exit 0),[],⟨[],[],[]⟩⟩] .no) .no)) .no))) (.cons al8 (.nil _)) fun _=>by kernel_rfl
def sL :FSum:=⟨170,[(.leaf (.list x)),(.fn 168 [] [g])],[(.cells 1 true [a])],[y],by exact u2 gt⟩
theorem sN :Rt sL:=rq (.no) (.cons uD (.nil _)) fun _=>by kernel_rfl
def zU :FSum:=⟨171,[.leaf (.list x)],[],wK x,ju⟩
theorem sw :Rt zU:=an0 (es:=1) (bytes:=8) (z:=[(.int .i64 0)]) (s:=x) (by kernel_rfl) (fun _=>by kernel_rfl) (fun _=>by kernel_rfl) (by kernel_rfl)
def bu4 :FSum:=⟨91,[a,(.agg [a,a,(.leaf (.list x))])],[],[⟨.ret,[],⟨[(.tup [.nilp,(.cint .i64 2)])],[],[]⟩⟩,⟨.ret,[],⟨[(.tup [g,j])],[],[(.cells 1 false [a,a,a,j,o]),l]⟩⟩],by exact u4 rM⟩
theorem aB7 :Rt bu4:=rq (.no) (.cons aY1 (.cons al8 (.cons sN (.cons sw (.nil _))))) fun _=>by kernel_rfl
def aB0 :FSum:=⟨223,[a],[],[y],rD⟩
theorem aB6 :Rt aB0:=rq (.no) (.nil _) fun _=>by kernel_rfl
def aV5 :FSum:=⟨172,[(.agg [a,a])],[],[y],by exact u2 rC⟩
theorem aX8 :Rt aV5:=rq ((.n .no (.n (.n (.jn [] [] [⟨.normal,[3],⟨[p],[],[]⟩⟩] .no .no) .no) .no))) (.cons aB6 (.nil _)) fun _=>by kernel_rfl
def yC :FSum:=⟨173,[g],[(.cells 1 true [a,a,a,a,o]),k],[⟨.ret,[],⟨[(.agg [.nilf,(.fn 224 [g] []),(.fn 225 [g] []),(.fn 226 [g] []),(.fn 227 [g] []),(.fn 228 [g] []),(.fn 229 [g] []),(.fn 230 [g] [])])],[],[]⟩⟩],by exact u5 ni⟩
theorem yF :Rt yC:=rq (.no) (.nil _) fun _=>by kernel_rfl
def xi :FSum:=⟨224,[g,a],[ao,k],[⟨.ret,[],⟨[a],[ao],[]⟩⟩],by exact u6 lX⟩
theorem xm :Rt xi:=rq (.no) (.nil _) fun _=>by kernel_rfl
def yD :FSum:=⟨225,[g,a],[(.cells 1 true [a,a,a,a,o]),l],[⟨.ret,[],⟨[a],[l],[]⟩⟩],by exact u6 nj⟩
theorem yG :Rt yD:=rq (.no) (.nil _) fun _=>by kernel_rfl
def xj :FSum:=⟨226,[g,a],[ao,k],[⟨.ret,[],⟨[a],[ao],[]⟩⟩],by exact u6 lY⟩
theorem xn :Rt xj:=rq (.no) (.nil _) fun _=>by kernel_rfl
def zR :FSum:=⟨227,[g,a],[(.cells 1 true [a,a,a,a,o]),l],[⟨.ret,[],⟨[a],[l],[]⟩⟩],by exact u6 nP⟩
theorem aa8 :Rt zR:=rq (.no) (.nil _) fun _=>by kernel_rfl
def yB :FSum:=⟨266,[g,a],[ao,k],[⟨.ret,[],⟨[a],[ao],[]⟩⟩],by exact u6 jg⟩
theorem rh :Rt yB:=rq (.no) (.nil _) fun _=>by kernel_rfl
def zS :FSum:=⟨228,[g,a],[ao,k],[⟨.ret,[],⟨[a],[ao],[]⟩⟩],by exact u6 nS⟩
theorem aa9 :Rt zS:=rq (.no) (.cons rh (.nil _)) fun _=>by kernel_rfl
def zQ :FSum:=⟨229,[g,a],[ao,k],[⟨.ret,[],⟨[a],[ao],[]⟩⟩],by exact u6 nO⟩
theorem aa7 :Rt zQ:=rq (.no) (.cons rh (.nil _)) fun _=>by kernel_rfl
def xk :FSum:=⟨230,[g,a],[ao,k],[⟨.ret,[],⟨[a],[ao],[]⟩⟩],by exact u6 lZ⟩
theorem xo :Rt xk:=rq (.no) (.nil _) fun _=>by kernel_rfl
def ak2 :FSum:=⟨92,[g,(.agg [a,a])],[ao,l],[⟨.ret,[],⟨[a],[ao,l],[]⟩⟩],by exact u7 kt⟩
theorem tV :Rt ak2:=rq ((.n .no (.jn [] [] [⟨.ret,[4],⟨[(.cint .i64 2)],[],[]⟩⟩,⟨.normal,[],⟨[],[],[]⟩⟩] (.n (.n .no (.n .no (.jn [] [] [⟨.normal,[8],⟨[p],[],[]⟩⟩] .no .no))) .no) .no))) (.cons aX8 (.cons yF (.cons xm (.cons yG (.cons xn (.cons aa8 (.cons aa9 (.cons aa7 (.cons xo (.nil _)))))))))) fun _=>by kernel_rfl
def aj4 :FSum:=⟨93,[g],[aj,d,d,h,h,k,ab,r,d],[⟨.ret,[],⟨[(.agg [.nilf,(.fn 174 [g] []),(.fn 175 [g] []),(.fn 176 [g] []),(.fn 177 [g] []),(.fn 164 [g] []),(.fn 178 [g] []),(.fn 179 [g] [])])],[],[]⟩⟩],by exact u27 tG⟩
theorem ak9 :Rt aj4:=lK (fun _=>rfl)
def aR8 :FSum:=⟨267,[aa,i],[],[⟨.ret,[],⟨[(.tup [(.full 0),o,a])],[],[(.arr false ar),b]⟩⟩],by exact u3 ux⟩
theorem aS7 :Rt aR8:=rq (.no) (.cons xE (.nil _)) fun _=>by kernel_rfl
def aR7 :FSum:=⟨269,[a,ap],[],[⟨.ret,[],⟨[(.tup [])],[],[]⟩⟩],by exact u6 uw⟩
theorem aS6 :Rt aR7:=rq (.no) (.nil _) fun _=>by kernel_rfl
def aV6 :FSum:=⟨268,[(.full 0),o,a,(.fn 269 [] [])],[(.arr true ar),b],[⟨.ret,[],⟨[(.tup [])],[b],[]⟩⟩],by exact u3 rK⟩
theorem aX9 :Rt aV6:=rq ((.n .no (.n .no (.n (.lp [1,2] ⟨.normal,[9,11,10],⟨[a,a,a],[b,ba],[]⟩⟩ [⟨.ret,[],⟨[],[b,ba],[]⟩⟩] .no) .no)))) (.cons al9 (.cons aS6 (.nil _))) fun _=>by kernel_rfl
def bi5 :FSum:=⟨231,[aa,i],[],[⟨.ret,[],⟨[(.tup [(.full 0),a])],[],[b]⟩⟩],by exact u3 qc⟩
theorem bl0 :Rt bi5:=rq (.no) (.cons aS7 (.cons aX9 (.nil _))) fun _=>by kernel_rfl
def zu :FSum:=⟨174,[g,a],[ah,d,d,h,h,k,ab,r,b],[⟨.ret,[],⟨[(.tup [])],[ah,b],[]⟩⟩],by exact u28 rF⟩
theorem zZ :Rt zu:=lK (fun _=>rfl)
def zP :FSum:=⟨94,[g],[(.cells 1 true [a,a,a,a,o]),k],[⟨.ret,[],⟨[(.agg [a,a,w])],[],[l]⟩⟩],by exact u5 cc⟩
theorem sq :Rt zP:=rq (.no) (.cons sw (.nil _)) fun _=>by kernel_rfl
def aj8 :FSum:=⟨175,[g,a],[aj,d,d,h,h,k,ab,q,d],[⟨.ret,[],⟨[(.tup [])],[q],[]⟩⟩],by exact u28 tH⟩
theorem al3 :Rt aj8:=lK (fun _=>rfl)
def zK :FSum:=⟨176,[g,a],[aj,d,d,h,h,k,ab,r,b],[⟨.ret,[],⟨[(.tup [])],[b],[]⟩⟩],by exact u28 rI⟩
theorem aa2 :Rt zK:=lK (fun _=>rfl)
def at9 :FSum:=⟨177,[g,a],[aj,d,d,h,h,k,ab,q,d],[⟨.ret,[],⟨[(.tup [])],[q],[]⟩⟩],by exact u28 uN⟩
theorem au5 :Rt at9:=lK (fun _=>rfl)
def at8 :FSum:=⟨178,[g,a],[ah,d,d,h,h,k,ab,q,b],[⟨.ret,[],⟨[(.tup [])],[ah,q,b],[]⟩⟩],by exact u28 uM⟩
theorem au4 :Rt at8:=lK (fun _=>rfl)
def zL :FSum:=⟨179,[g,a],[ah,d,d,h,h,k,ab,q,b],[⟨.ret,[],⟨[(.tup [])],[ah,q,b],[]⟩⟩],by exact u28 rJ⟩
theorem aa3 :Rt zL:=lK (fun _=>rfl)
def aB1 :FSum:=⟨26,[g,(.agg [a,a])],[ah,d,d,h,h,k,ab,q,b],[⟨.ret,[],⟨[a],[ah,q,b],[]⟩⟩],by exact u29 dy⟩
theorem xD :Rt aB1:=rq (.no) (.cons rf (.cons al1 (.cons uS (.cons aB7 (.cons tV (.cons ak9 (.cons zZ (.cons sq (.cons al3 (.cons aa2 (.cons au5 (.cons uT (.cons au4 (.cons aa3 (.nil _))))))))))))))) fun _=>by kernel_rfl
def ag9 :FSum:=⟨27,[g],[aj,d,d,h,h,k,ab,r,d],[⟨.ret,[],⟨[(.tup [(.agg [c,(.full 9),(.full 10)]),a])],[],[b,b]⟩⟩],by exact u27 jN⟩
theorem sR :Rt ag9:=rq (.no) (.cons gy (.nil _)) fun _=>by kernel_rfl
def bw4 :FSum:=⟨31,[(.agg [c,i,i]),(.agg [c,i,i])],[],[y],by exact u6 nW⟩
theorem ab4 :Rt bw4:=rq ((.n .no (.n .no (.n (.n .no (.n (.lp [] ⟨.normal,[5],⟨[a],[],[]⟩⟩ [⟨.ret,[4],⟨[p],[],[]⟩⟩,⟨(.exit 0),[],⟨[],[],[]⟩⟩] .no) .no)) (.n (.n .no (.n (.lp [] ⟨.normal,[6],⟨[a],[],[]⟩⟩ [⟨.ret,[4],⟨[p],[],[]⟩⟩,⟨(.exit 2),[],⟨[],[],[]⟩⟩] .no) .no)) .no))))) (.nil _) fun _=>by kernel_rfl
def ai9 :FSum:=⟨58,[g],[aj,d,d,h,h,k,ab,r,d],[⟨.ret,[],⟨[(.agg [a,a,a,a])],[],[]⟩⟩],by exact u27 mh⟩
theorem tS :Rt ai9:=rq (.no) (.nil _) fun _=>by kernel_rfl
def xh :FSum:=⟨64,[g],[ak,d,d,h,h,k,ac,ad,r,d],[y],by exact u30 lW⟩
theorem xl :Rt xh:=rq (.no) (.nil _) fun _=>by kernel_rfl
def tM :FSum:=⟨95,[g,a],[ak,d,d,h,h,k,ac,ad,r,d],[⟨.ret,[],⟨[(.full 10)],[],[b]⟩⟩],by exact u31 cu⟩
theorem dx :Rt tM:=rq (.no) (.cons og (.nil _)) fun _=>by kernel_rfl
def zw :FSum:=⟨214,[g,aa,i,i],[ak,d,d,h,h,k,ac,ad,r,d],[⟨.ret,[],⟨[(.full 10)],[],[b]⟩⟩],by exact u34 ij⟩
theorem oh :Rt zw:=rq (.no) (.cons dx (.cons nH (.nil _))) fun _=>by kernel_rfl
def od :FSum:=⟨162,[g],[ag,d,d,h,h,k,ac,ad,r,b],[⟨.ret,[],⟨[(.tup [(.full 10),(.full 11)])],[ag,b],[b,b]⟩⟩],by exact u30 jo⟩
theorem sm :Rt od:=rq ((.n .no (.n .no (.n (.dr [0,1,2,3,4,5,6,8,9,10,11,12,15,1013,1016,7,13,1016,14,17,16,18]) .no)))) (.cons pN (.cons dx (.cons oh (.cons tA (.cons gz (.nil _)))))) fun _=>by kernel_rfl
def ah1 :FSum:=⟨220,[g,(.agg [a,o]),w,(.full 3),(.full 4)],[(.cells 1 false [a,a,a,a,a,(.full 5),(.full 6),a,(.full 7),a,o,a,a,(.full 8),(.ptr 9 0),(.ptr 10 0),(.ptr 11 0),a,a,a,a,a,a,a,c]),h,b,b,d,d,d,h,k,(.cells 1 true [(.full 12),a]),(.cells 1 true [a,a,a,(.ptr 9 0)]),r,b],[⟨.ret,[],⟨[(.tup [])],[(.cells 1 false [a,a,a,a,a,(.full 5),(.full 6),a,(.full 7),a,o,a,a,(.full 8),(.ptr 9 0),(.ptr 10 0),(.ptr 11 0),a,a,a,a,a,a,a,c]),b,b,b],[]⟩⟩],by exact u34 lQ⟩
theorem ah8 :Rt ah1:=rq ((.n .no (.n .no (.n .no (.n .no (.n .no (.n .no (.n (.n .no (.n (.lp [14] ⟨.normal,[36],⟨[a],[b],[]⟩⟩ [⟨(.exit 0),[],⟨[],[b],[]⟩⟩] .no) .no)) .no)))))))) (.cons ab6 (.cons gz (.cons dx (.nil _)))) fun _=>by kernel_rfl
def pi :FSum:=⟨218,[g,i],[ag,d,d,h,h,k,ac,ad,r,b],[⟨.ret,[],⟨[(.tup [])],[ag,b],[]⟩⟩],by exact u31 kn⟩
theorem tU :Rt pi:=rq ((.n .no (.n (.dr [0,1,2,3,4,5,6,8,1009,7,10,9,11]) .no))) (.cons pN (.cons oh (.cons tA (.cons gz (.cons vz (.cons ah8 (.nil _))))))) fun _=>by kernel_rfl
def ah5 :FSum:=⟨164,[g,a],[ag,d,d,h,h,k,ac,ad,q,b],[⟨.ret,[],⟨[(.tup [])],[ag,q,b],[]⟩⟩],by exact u31 lU⟩
theorem ai2 :Rt ah5:=i4 (ins:=[⟨216,gi aB 216 ⟨[lE,lD],[⟨217,gi aB 217 ⟨[tM,pi],[]⟩ .no⟩]⟩ .no⟩]) (at':= .no) (.cons pN (.nil _)) (bt.cons (cy (.cons jb (.cons jU (.nil _))) (bt.cons (cy (.cons dx (.cons tU (.nil _))) (bt.nil _)) (bt.nil _))) (bt.nil _)) fun _=>by kernel_rfl
def zy :FSum:=⟨90,[g,(.agg [a,a])],[ag,d,d,h,h,k,ac,ad,q,b],[⟨.ret,[],⟨[a],[ag,q,b],[]⟩⟩],by exact u32 rH⟩
theorem aa1 :Rt zy:=lK (fun _=>rfl)
def oe :FSum:=⟨181,[(.agg [a,a,a]),a],[],[v],by exact u4 ew⟩
theorem oj :Rt oe:=rq (.no) (.cons qR (.nil _)) fun _=>by kernel_rfl
def oR :FSum:=⟨180,[g,a],[(.cells 1 true [o,a]),d],[⟨.ret,[],⟨[(.tup [c,a])],[],[]⟩⟩],by exact u3 iu⟩
theorem oT :Rt oR:=i4 (ins:=[⟨202,gi aB 202 ⟨[],[⟨219,gi aB 219 ⟨[kK],[]⟩ .no⟩]⟩ .no⟩]) (at':= .no) (.nil _) (bt.cons (cy (.nil _) (bt.cons (cy (.cons gf (.nil _)) (bt.nil _)) (bt.nil _))) (bt.nil _)) fun _=>by kernel_rfl
def ak4 :FSum:=⟨96,[g],[(.cells 1 true [a,a,a,(.ptr 1 0)]),(.cells 1 true [w,a]),d],[⟨.ret,[],⟨[(.full 3)],[],[l]⟩⟩],by exact u5 mD⟩
theorem am4 :Rt ak4:=rq ((.n .no (.n .no (.n .no (.n (.n .no (.n (.lp [] ⟨.normal,[14,3],⟨[a,(.full 3)],[],[l]⟩⟩ [⟨(.exit 0),[3],⟨[(.full 3)],[],[l]⟩⟩] .no) .no)) .no))))) (.cons oj (.cons oT (.nil _))) fun _=>by kernel_rfl
def ah0 :FSum:=⟨29,[g],[ak,d,d,h,h,k,ac,ad,r,d],[⟨.ret,[],⟨[(.agg [a,a,(.full 10)])],[],[l]⟩⟩],by exact u30 iz⟩
theorem sS :Rt ah0:=rq (.no) (.cons am4 (.nil _)) fun _=>by kernel_rfl
def zx :FSum:=⟨93,[g],[ak,d,d,h,h,k,ac,ad,r,d],[⟨.ret,[],⟨[(.agg [.nilf,(.fn 174 [g] []),(.fn 175 [g] []),(.fn 176 [g] []),(.fn 177 [g] []),(.fn 164 [g] []),(.fn 178 [g] []),(.fn 179 [g] [])])],[],[]⟩⟩],by exact u30 nM⟩
theorem aa0 :Rt zx:=rq (.no) (.nil _) fun _=>by kernel_rfl
def xX :FSum:=⟨174,[g,a],[ag,d,d,h,h,k,ac,ad,r,b],[⟨.ret,[],⟨[(.tup [])],[ag,b],[]⟩⟩],by exact u31 jY⟩
theorem yf :Rt xX:=rq ((.n .no (.n (.lp [0,9] ⟨.normal,[8],⟨[a],[ag,b],[]⟩⟩ [⟨(.exit 0),[],⟨[],[ag,b],[]⟩⟩] (.n .no (.n .no (.n (.n (.n .no (.n (.dr [0,1,2,3,4,5,6,7,8,9,10,11,13,14,15,16,17,18,19,1020,12,20,21,22,23,24,25,26,27]) .no)) .no) .no)))) .no))) (.cons dx (.cons oh (.cons bl0 (.cons gz (.nil _))))) fun _=>by kernel_rfl
def oS :FSum:=⟨297,[(.agg [a,a,a]),a],[],[y],by exact u4 kD⟩
theorem sA :Rt oS:=rq (.no) (.nil _) fun _=>by kernel_rfl
def ah6 :FSum:=⟨232,[g,a,a,i],[(.cells 1 true [a,a,a,(.ptr 1 0)]),(.cells 1 true [w,a]),b],[⟨.ret,[],⟨[a],[b],[]⟩⟩],by exact u8 oI⟩
theorem ai3 :Rt ah6:=i4 (ins:=[⟨270,gi aB 270 ⟨[oS,oe,oR],[⟨271,gi aB 271 ⟨[pX],[]⟩ (.n .no (.n (.n (.jn [] [] [⟨.normal,[8],⟨[p],[],[]⟩⟩] .no .no) .no) .no))⟩]⟩ .no⟩]) (at':= .no) (.nil _) (bt.cons (cy (.cons sA (.cons oj (.cons oT (.nil _)))) (bt.cons (cy (.cons jw (.nil _)) (bt.nil _)) (bt.nil _))) (bt.nil _)) fun _=>by kernel_rfl
def zM :FSum:=⟨175,[g,a],[ak,d,d,h,h,k,ac,ad,q,b],[⟨.ret,[],⟨[(.tup [])],[q,b],[]⟩⟩],by exact u31 kZ⟩
theorem aa4 :Rt zM:=rq (.no) (.cons jb (.cons dx (.cons ai3 (.nil _)))) fun _=>by kernel_rfl
def yE :FSum:=⟨233,[g,a],[(.cells 1 true [a,a,a,(.ptr 1 0)]),(.cells 1 true [w,a]),d],[⟨.ret,[],⟨[(.tup [a,(.full 3),a])],[],[b]⟩⟩],by exact u6 nv⟩
theorem yJ :Rt yE:=i4 (ins:=[⟨270,gi aB 270 ⟨[oS,oe,oR],[⟨272,gi aB 272 ⟨[wm],[]⟩ .no⟩]⟩ .no⟩]) (at':= .no) (.nil _) (bt.cons (cy (.cons sA (.cons oj (.cons oT (.nil _)))) (bt.cons (cy (.cons og (.nil _)) (bt.nil _)) (bt.nil _))) (bt.nil _)) fun _=>by kernel_rfl
def xY :FSum:=⟨176,[g,a],[ak,d,d,h,h,k,ac,ad,r,b],[⟨.ret,[],⟨[(.tup [])],[b],[]⟩⟩],by exact u31 jZ⟩
theorem yg :Rt xY:=rq (.no) (.cons yJ (.cons gz (.nil _))) fun _=>by kernel_rfl
def ak3 :FSum:=⟨234,[g,a],[(.cells 1 true [a,a,a,(.ptr 1 0)]),(.cells 1 true [w,a]),b],[⟨.ret,[],⟨[a],[b],[]⟩⟩],by exact u6 pg⟩
theorem am3 :Rt ak3:=i4 (ins:=[⟨270,gi aB 270 ⟨[oS,oe,oR],[⟨273,gi aB 273 ⟨[wu,pX],[]⟩ .no⟩]⟩ .no⟩]) (at':= .no) (.nil _) (bt.cons (cy (.cons sA (.cons oj (.cons oT (.nil _)))) (bt.cons (cy (.cons qR (.cons jw (.nil _))) (bt.nil _)) (bt.nil _))) (bt.nil _)) fun _=>by kernel_rfl
def ah4 :FSum:=⟨177,[g,a],[ak,d,d,h,h,k,ac,ad,q,b],[⟨.ret,[],⟨[(.tup [])],[q,b],[]⟩⟩],by exact u31 lT⟩
theorem ai1 :Rt ah4:=rq (.no) (.cons am3 (.cons jU (.nil _))) fun _=>by kernel_rfl
def ah2 :FSum:=⟨220,[g,(.agg [a,o]),w,(.full 3),(.full 4)],[(.cells 1 false [a,a,a,a,a,(.full 5),(.full 6),a,o,a,(.full 7),a,a,(.full 8),(.ptr 9 0),(.ptr 10 0),(.ptr 11 0),a,a,a,a,a,a,a,c]),h,b,b,d,d,d,h,k,(.cells 1 true [(.full 12),a]),(.cells 1 true [a,a,a,(.ptr 9 0)]),r,b],[⟨.ret,[],⟨[(.tup [])],[(.cells 1 false [a,a,a,a,a,(.full 5),(.full 6),a,o,a,(.full 7),a,a,(.full 8),(.ptr 9 0),(.ptr 10 0),(.ptr 11 0),a,a,a,a,a,a,a,c]),b,b,b],[]⟩⟩],by exact u34 lR⟩
theorem ah9 :Rt ah2:=rq ((.n .no (.n .no (.n .no (.n .no (.n .no (.n .no (.n (.n .no (.n (.lp [14] ⟨.normal,[36],⟨[a],[b],[]⟩⟩ [⟨(.exit 0),[],⟨[],[b],[]⟩⟩] .no) .no)) .no)))))))) (.cons ab6 (.cons gz (.cons dx (.nil _)))) fun _=>by kernel_rfl
def oK :FSum:=⟨166,[g,o,w],[(.cells 1 false [a,a,a,a,a,(.full 3),(.full 4),a,(.full 5),a,(.full 6),a,a,(.full 7),(.ptr 8 0),(.ptr 9 0),(.ptr 10 0),a,a,a,a,a,a,a,c]),b,d,d,d,h,h,k,(.cells 1 true [(.full 11),a]),(.cells 1 true [a,a,a,(.ptr 8 0)]),r,b],[⟨.ret,[],⟨[(.tup [])],[(.cells 1 false [a,a,a,a,a,(.full 3),(.full 4),a,(.full 5),a,(.full 6),a,a,(.full 7),(.ptr 8 0),(.ptr 9 0),(.ptr 10 0),a,a,a,a,a,a,a,c]),b,b],[]⟩⟩],by exact u32 jO⟩
theorem sT :Rt oK:=rq (.no) (.cons dx (.cons vz (.cons ah9 (.nil _)))) fun _=>by kernel_rfl
def ah3 :FSum:=⟨178,[g,a],[ag,d,d,h,h,k,ac,ad,q,b],[⟨.ret,[],⟨[(.tup [])],[ag,q,b],[]⟩⟩],by exact u31 lS⟩
theorem ai0 :Rt ah3:=i4 (ins:=[⟨216,gi aB 216 ⟨[lE,lD],[⟨235,gi aB 235 ⟨[od,pi,oK],[]⟩ .no⟩]⟩ .no⟩]) (at':= .no) (.cons pN (.nil _)) (bt.cons (cy (.cons jb (.cons jU (.nil _))) (bt.cons (cy (.cons sm (.cons tU (.cons sT (.nil _)))) (bt.nil _)) (bt.nil _))) (bt.nil _)) fun _=>by kernel_rfl
def xZ :FSum:=⟨179,[g,a],[ag,d,d,h,h,k,ac,ad,q,b],[⟨.ret,[],⟨[(.tup [])],[ag,q,b],[]⟩⟩],by exact u31 kc⟩
theorem yh :Rt xZ:=i4 (ins:=[⟨216,gi aB 216 ⟨[lE,lD],[⟨236,gi aB 236 ⟨[od,oK],[]⟩ .no⟩]⟩ .no⟩]) (at':= .no) (.cons pN (.nil _)) (bt.cons (cy (.cons jb (.cons jU (.nil _))) (bt.cons (cy (.cons sm (.cons sT (.nil _))) (bt.nil _)) (bt.nil _))) (bt.nil _)) fun _=>by kernel_rfl
def at1 :FSum:=⟨26,[g,(.agg [a,a])],[ag,d,d,h,h,k,ac,ad,q,b],[⟨.ret,[],⟨[a],[ag,q,b],[]⟩⟩],by exact u32 dk⟩
theorem uP :Rt at1:=rq (.no) (.cons xl (.cons aa1 (.cons sS (.cons aB7 (.cons tV (.cons aa0 (.cons yf (.cons sq (.cons aa4 (.cons yg (.cons ai1 (.cons ai2 (.cons ai0 (.cons yh (.nil _))))))))))))))) fun _=>by kernel_rfl
def yz :FSum:=⟨27,[g],[ak,d,d,h,h,k,ac,ad,r,d],[⟨.ret,[],⟨[(.tup [(.agg [c,(.full 10),(.full 11)]),a])],[],[b,b]⟩⟩],by exact u30 jf⟩
theorem re :Rt yz:=rq (.no) (.cons dx (.nil _)) fun _=>by kernel_rfl
def zp :FSum:=⟨58,[g],[ak,d,d,h,h,k,ac,ad,r,d],[⟨.ret,[],⟨[(.agg [a,a,a,a])],[],[]⟩⟩],by exact u30 kV⟩
theorem sj :Rt zp:=rq (.no) (.nil _) fun _=>by kernel_rfl
def bu2 :FSum:=⟨11,[],[],[y],fun _=>py⟩
theorem by8 :Rt bu2:=rq ((.n .no (.n .no (.sz 13 (.n .no (.n .no (.n (.n .no (.n (.n .no (.n .no (.n .no (.n .no (.n .no (.n .no (.n .no (.n .no (.n .no .no))))))))) .no)) .no))) (.sz 4012 (.n .no (.n .no (.n (.n .no (.n (.n .no (.n .no (.n .no (.n .no (.n .no (.n .no (.n .no (.n .no (.n .no .no))))))))) .no)) .no))) (.n .no (.n .no (.n (.n .no (.n (.n .no (.n .no (.n .no (.n .no (.n .no (.n .no (.n .no (.n .no (.n .no .no))))))))) .no)) .no)))))))) (.cons aS8 (.cons aO2 (.cons xD (.cons sR (.cons ab4 (.cons tS (.cons uP (.cons re (.cons sj (.nil _)))))))))) fun _=>by kernel_rfl
def bk3 :FSum:=⟨136,[af],[],[v],by exact u9 tv⟩
theorem bl9 :Rt bk3:=rq (.no) (.nil _) fun _=>by kernel_rfl
def bx4 :FSum:=⟨137,[af],[],[v],by exact u9 vq⟩
theorem bA4 :Rt bx4:=rq (.no) (.cons wE (.nil _)) fun _=>by kernel_rfl
def bx3 :FSum:=⟨138,[af],[],[v],by exact u9 vp⟩
theorem bA3 :Rt bx3:=rq (.no) (.cons wE (.nil _)) fun _=>by kernel_rfl
def bx2 :FSum:=⟨67,[af],[],[⟨.ret,[],⟨[(.tup [(.agg [a,a,a,a]),a])],[],[]⟩⟩],by exact u9 rZ⟩
theorem aC9 :Rt bx2:=rq ((.n .no (.n .no (.n (.dr [0,2,4,1,3,5,6,7,8]) (.jn [2] [] [⟨.normal,[],⟨[],[(.cells 1 false [a,a,a,a])],[]⟩⟩] .no (.n .no (.n (.n (.lp [2] ⟨.normal,[],⟨[],[(.cells 1 false [a,a,a,a])],[]⟩⟩ [⟨(.exit 0),[],⟨[],[(.cells 1 false [a,a,a,a])],[]⟩⟩] .no) .no) .no))))))) (.cons av2 (.cons bl9 (.cons bA4 (.cons bA3 (.nil _))))) fun _=>by kernel_rfl
def bI2 :FSum:=⟨68,[a,a],[],[⟨.ret,[],⟨[(.agg [(.full 0),a])],[],[(.arr false ay)]⟩⟩],by exact u2 xz⟩
theorem bJ3 :Rt bI2:=rq ((.n .no (.n .no (.n (.n .no (.n (.lp [0,1] ⟨.normal,[6],⟨[a],[(.cells 1 false [NS,j]),(.cells 1 false [w,a])],[(.arr false ay)]⟩⟩ [⟨(.exit 0),[],⟨[],[(.cells 1 false [NS,j]),(.cells 1 false [w,a])],[(.arr false ay)]⟩⟩] .no) .no)) .no)))) (.nil _) fun _=>by kernel_rfl
def bI3 :FSum:=⟨13,[af],[],[⟨.ret,[],⟨[(.tup [(.agg [a,i,i,a,m,a,m,a,a,a,m,a,m,a,i,a,a,a,a,a,j,a,i,(.full 0),a,NS,o,w,(.cint .u64 0),j,j,j,j,a]),a])],[],[(.arr false ay),b,b]⟩⟩],by exact u9 li⟩
theorem bJ4 :Rt bI3:=rq ((.n .no (.n .no (.n .no (.n (.dr [0,1,2,3,4,5,6,7,8,10,11,12,9,13,14,15,16]) .no))))) (.cons aC9 (.cons bJ3 (.nil _))) fun _=>by kernel_rfl
def bw6 :FSum:=⟨139,[(.agg [(.leaf an),a])],[],[⟨.ret,[],⟨[(.full 0)],[],[l]⟩⟩],by exact u2 vm⟩
theorem bA0 :Rt bw6:=rq ((.n .no (.n .no (.n (.n .no (.n (.lp [] ⟨.normal,[4,3],⟨[a,w],[],[l]⟩⟩ [⟨(.exit 0),[3],⟨[w],[],[l]⟩⟩] .no) .no)) .no)))) (.nil _) fun _=>by kernel_rfl
def bx7 :FSum:=⟨69,[ai],[],[⟨.ret,[],⟨[(.agg [a,a,(.full 0)])],[],[l]⟩⟩],by exact u34 kf⟩
theorem ab5 :Rt bx7:=rq (.no) (.cons bA0 (.nil _)) fun _=>by kernel_rfl
def bx0 :FSum:=⟨28,[(.agg [a,a,(.leaf (.list x))]),(.agg [a,a,(.leaf (.list x))])],[],[y],by exact u6 rX⟩
theorem aC7 :Rt bx0:=rq ((.n .no (.n .no (.n (.n .no (.n (.lp [] ⟨.normal,[5],⟨[a],[],[]⟩⟩ [⟨.ret,[4],⟨[p],[],[]⟩⟩,⟨(.exit 0),[],⟨[],[],[]⟩⟩] .no) .no)) .no)))) (.nil _) fun _=>by kernel_rfl
def aw3 :FSum:=⟨70,[g],[aj,d,d,h,h,k,ab,r,d],[v],by exact u27 qL⟩
theorem ax2 :Rt aw3:=rq (.no) (.nil _) fun _=>by kernel_rfl
def aj2 :FSum:=⟨30,[g],[aj,d,d,h,h,k,ab,r,d],[⟨.ret,[],⟨[(.full 9)],[],[b]⟩⟩],by exact u27 mm⟩
theorem ak8 :Rt aj2:=rq (.no) (.cons gy (.nil _)) fun _=>by kernel_rfl
def bu8 :FSum:=⟨22,[i,i],[],[y],by exact u2 rR⟩
theorem aC0 :Rt bu8:=rq ((.n .no (.n .no (.n (.n .no (.n (.lp [] ⟨.normal,[5],⟨[a],[],[]⟩⟩ [⟨.ret,[4],⟨[p],[],[]⟩⟩,⟨(.exit 0),[],⟨[],[],[]⟩⟩] .no) .no)) .no)))) (.nil _) fun _=>by kernel_rfl
def aw4 :FSum:=⟨140,[g],[r],[v],by exact u3 lr⟩
theorem wz :Rt aw4:=rq (.no) (.nil _) fun _=>by kernel_rfl
def at3 :FSum:=⟨71,[g],[aj,d,d,h,h,k,ab,r,d],[v],by exact u27 kO⟩
theorem uQ :Rt at3:=rq (.no) (.cons wz (.nil _)) fun _=>by kernel_rfl
def bw7 :FSum:=⟨141,[(.agg [(.leaf an),a])],[],[v],by exact u2 vn⟩
theorem bA1 :Rt bw7:=rq ((.n .no (.n .no (.n (.n .no (.n (.lp [] ⟨.normal,[4,3],⟨[a,a],[],[]⟩⟩ [⟨(.exit 0),[3],⟨[a],[],[]⟩⟩] .no) .no)) .no)))) (.nil _) fun _=>by kernel_rfl
def bx5 :FSum:=⟨72,[ai],[],[v],by exact u34 ga⟩
theorem sv :Rt bx5:=rq (.no) (.cons bA1 (.nil _)) fun _=>by kernel_rfl
def aw5 :FSum:=⟨142,[g],[r],[v],by exact u3 lu⟩
theorem wA :Rt aw5:=rq (.no) (.nil _) fun _=>by kernel_rfl
def at5 :FSum:=⟨73,[g],[aj,d,d,h,h,k,ab,r,d],[v],by exact u27 kP⟩
theorem uR :Rt at5:=rq (.no) (.cons wA (.nil _)) fun _=>by kernel_rfl
def zr :FSum:=⟨24,[g],[aj,d,d,h,h,k,ab,r,d],[⟨.ret,[],⟨[(.agg [c,c,c,c,c,c,c,c,c,c,c,c,c,c,c,c])],[],[]⟩⟩],by exact u27 kX⟩
theorem zX :Rt zr:=rq ((.n .no (.n .no (.n .no (.n .no (.n (.n .no (.n (.lp [10] ⟨.normal,[50],⟨[a],[(.cells 1 false [c,c,c,c,c,c,c,c,c,c,c,c,c,c,c,c])],[]⟩⟩ [⟨(.exit 0),[],⟨[],[(.cells 1 false [c,c,c,c,c,c,c,c,c,c,c,c,c,c,c,c])],[]⟩⟩] .no) .no)) .no)))))) (.cons uQ (.cons uR (.nil _))) fun _=>by kernel_rfl
def aS4 :FSum:=⟨20,[ai],[],[⟨.ret,[],⟨[(.agg [c,c,c,c,c,c,c,c,c,c,c,c,(.cint .u64 0),(.cint .u64 0),(.cint .u64 0),(.cint .u64 0)])],[],[]⟩⟩],by exact u34 kI⟩
theorem af7 :Rt aS4:=rq (.no) (.cons sv (.nil _)) fun _=>by kernel_rfl
def aX5 :FSum:=⟨74,[ai],[],[⟨.ret,[],⟨[(.tup [(.agg [c,i,i]),a])],[],[]⟩⟩],by exact u34 lz⟩
theorem am0 :Rt aX5:=rq (.no) (.nil _) fun _=>by kernel_rfl
def at0 :FSum:=⟨89,[g],[(.cells 1 true [o,a]),d],[⟨.ret,[],⟨[w],[],[b]⟩⟩],by exact u2 kN⟩
theorem uO :Rt at0:=rq (.no) (.cons gf (.nil _)) fun _=>by kernel_rfl
def aj0 :FSum:=⟨23,[g],[aj,d,d,h,h,k,ab,r,d],[⟨.ret,[],⟨[(.full 9)],[],[b]⟩⟩],by exact u27 mj⟩
theorem ak6 :Rt aj0:=rq (.no) (.cons uO (.nil _)) fun _=>by kernel_rfl
def aX4 :FSum:=⟨86,[af],[],[⟨.ret,[],⟨[(.tup [(.full 0),a])],[],[l]⟩⟩],by exact u9 pf⟩
theorem aY9 :Rt aX4:=rq ((.n .no (.n .no (.n .no (.n .no (.n .no (.n (.n .no (.n (.lp [] ⟨.normal,[8,7],⟨[a,(.full 4)],[],[l]⟩⟩ [⟨(.exit 0),[7],⟨[(.full 4)],[],[l]⟩⟩] .no) .no)) .no))))))) (.cons aC9 (.nil _)) fun _=>by kernel_rfl
def aX6 :FSum:=⟨143,[i,a,i],[],[y],by exact u3 gw⟩
theorem am1 :Rt aX6:=rq ((.n .no (.n .no (.n (.n .no (.n (.lp [] ⟨.normal,[7],⟨[a],[],[]⟩⟩ [⟨.ret,[6],⟨[p],[],[]⟩⟩,⟨(.exit 0),[],⟨[],[],[]⟩⟩] .no) .no)) .no)))) (.nil _) fun _=>by kernel_rfl
def aS2 :FSum:=⟨209,[aa],[],[v],by exact u2 qz⟩
theorem aS9 :Rt aS2:=rq ((.n .no (.n (.n .no (.n (.lp [] ⟨.normal,[3],⟨[a],[],[]⟩⟩ [⟨.ret,[2],⟨[a],[],[]⟩⟩,⟨(.exit 0),[],⟨[],[],[]⟩⟩] .no) .no)) .no))) (.cons aC1 (.nil _)) fun _=>by kernel_rfl
def bj5 :FSum:=⟨259,[m],[],[⟨.ret,[],⟨[(.tup [(.full 0),a])],[],[l]⟩⟩],tq⟩
theorem bl5 :Rt bj5:=rq ((.n .no (.n .no (.n .no (.n .no (.n (.n .no (.n (.lp [] ⟨.normal,[9,8],⟨[a,w],[],[l]⟩⟩ [⟨(.exit 0),[8],⟨[w],[],[l]⟩⟩] (.n .no (.n (.n (.n .no (.jn [] [] [⟨.normal,[10],⟨[a],[],[]⟩⟩] .no .no)) .no) .no))) .no)) .no)))))) (.cons wD (.cons tx (.cons av0 (.cons sr (.nil _))))) fun _=>by kernel_rfl
def bv7 :FSum:=⟨210,[m],[],[⟨.ret,[],⟨[(.full 0)],[],[(.arr false am)]⟩⟩],vi⟩
theorem bz5 :Rt bv7:=rq ((.n .no (.n .no (.n .no (.n .no (.n (.n .no (.n (.lp [] ⟨.normal,[8,7],⟨[a,(.full 3)],[],[(.arr false am)]⟩⟩ [⟨(.exit 0),[7],⟨[(.full 3)],[],[(.arr false am)]⟩⟩] (.n .no (.n (.n (.jn [] [] [⟨(.exit 1),[8],⟨[a],[],[]⟩⟩,⟨.normal,[8],⟨[a],[],[]⟩⟩] .no .no) .no) .no))) .no)) .no)))))) (.cons tx (.cons bl5 (.nil _))) fun _=>by kernel_rfl
def aX0 (n:Nat):FSum:=⟨211,[m,(.leaf (.list x)),a,a],[],[⟨.ret,[],⟨[(.tup [m,a])],[],[]⟩⟩],fun t=>(ik n) t.1 t.2.1 t.2.2.1 t.2.2.2⟩
theorem yH : ∀n,uW aB (aX0 n)
 |0=>lK (fun t=>rfl)
 |n+1=>rq ((.n .no (.n .no (.n .no (.n (.n .no (.n (.lp [] ⟨.normal,[12,11,10],⟨[a,a,o],[],[(.arr false am)]⟩⟩ [⟨(.exit 0),[10,11],⟨[o,a],[],[(.arr false am)]⟩⟩] (.n .no (.n (.n (.n .no (.n .no (.n .no (.n (.n .no (.n (.lp [] ⟨.normal,[15,10,11],⟨[c,w,a],[],[(.arr false am)]⟩⟩ [⟨(.exit 2),[11,10],⟨[a,w],[],[(.arr false am)]⟩⟩] .no) .no)) .no)))) .no) .no))) .no)) .no))))) (.cons (yH n) (.nil _)) fun _=>by kernel_rfl
def bv6 :FSum:=⟨211,[m,(.leaf (.list x)),a,a],[],[⟨.ret,[],⟨[(.tup [m,a])],[],[]⟩⟩],by exact u4 zf⟩
theorem bz4 :Rt bv6:=(yH 400)
def aX1 :FSum:=⟨158,[aa],[],[⟨.ret,[],⟨[(.tup [m,a])],[],[]⟩⟩],by exact u2 kv⟩
theorem pj :Rt aX1:=rq (.no) (.cons aS9 (.cons bz5 (.cons tx (.cons bz4 (.nil _))))) fun _=>by kernel_rfl
def aX3 :FSum:=⟨161,[i,i,i],[],[⟨.ret,[],⟨[(.full 0)],[],[b]⟩⟩],by exact u3 ly⟩
theorem su :Rt aX3:=rq ((.n .no (.n .no (.n (.n .no (.n (.lp [] ⟨.normal,[8,7],⟨[a,o],[],[b]⟩⟩ [⟨(.exit 0),[7],⟨[o],[],[b]⟩⟩] .no) .no)) (.n (.n .no (.n (.lp [] ⟨.normal,[9,7],⟨[a,w],[],[b]⟩⟩ [⟨(.exit 2),[7],⟨[w],[],[b]⟩⟩] .no) .no)) (.n (.n .no (.n (.lp [] ⟨.normal,[10,7],⟨[a,(.full 3)],[],[b]⟩⟩ [⟨(.exit 4),[7],⟨[(.full 3)],[],[b]⟩⟩] .no) .no)) .no)))))) (.nil _) fun _=>by kernel_rfl
def bj8 :FSum:=⟨152,[(.agg [a,m,a,m,a,i]),a,i],[],[⟨.ret,[],⟨[(.full 0)],[],[b]⟩⟩],by exact u8 mM⟩
theorem yk :Rt bj8:=rq (.no) (.cons su (.nil _)) fun _=>by kernel_rfl
def bj6 :FSum:=⟨159,[a,i],[],[⟨.ret,[],⟨[(.full 0)],[],[b]⟩⟩],by exact u2 lh⟩
theorem tz :Rt bj6:=rq ((.n .no (.n .no (.n (.n .no (.n (.lp [] ⟨.normal,[6,5],⟨[a,o],[],[b]⟩⟩ [⟨(.exit 0),[5],⟨[o],[],[b]⟩⟩] (.n .no (.n (.n (.n .no (.jn [] [] [⟨.normal,[7],⟨[c],[],[]⟩⟩] .no .no)) .no) .no))) .no)) .no)))) (.nil _) fun _=>by kernel_rfl
def aW5 :FSum:=⟨243,[c],[],[⟨.ret,[],⟨[(.agg [a,a,a,a,a,a,a,a])],[],[]⟩⟩],ku⟩
theorem wB :Rt aW5:=rq ((.n .no (.n .no (.n (.n .no (.n (.lp [1] ⟨.normal,[4,0],⟨[a,c],[au],[]⟩⟩ [⟨(.exit 0),[],⟨[],[au],[]⟩⟩] .no) .no)) .no)))) (.nil _) fun _=>by kernel_rfl
def aW6 :FSum:=⟨244,[(.agg [a,a,a,a,a,a,a,a])],[],[⟨.ret,[],⟨[c],[],[]⟩⟩],by exact u8 lw⟩
theorem wC :Rt aW6:=rq ((.n .no (.n .no (.n .no (.n .no (.n (.n .no (.n (.lp [] ⟨.normal,[6,5,3,4],⟨[a,a,c,c],[],[]⟩⟩ [⟨(.exit 0),[3],⟨[c],[],[]⟩⟩] .no) .no)) .no)))))) (.nil _) fun _=>by kernel_rfl
def bu7 :FSum:=⟨189,[c,c],[],[⟨.ret,[],⟨[c],[],[]⟩⟩],by exact u2 mv⟩
theorem ab2 :Rt bu7:=rq ((.n .no (.n .no (.n .no (.n (.n .no (.n (.lp [0] ⟨.normal,[7],⟨[a],[au],[]⟩⟩ [⟨(.exit 0),[],⟨[],[au],[]⟩⟩] .no) .no)) .no))))) (.cons wB (.cons wC (.nil _))) fun _=>by kernel_rfl
def bI0 :FSum:=⟨260,[c],[],[⟨.ret,[],⟨[c],[],[]⟩⟩],qX⟩
theorem aO5 :Rt bI0:=rq ((.n .no (.n .no (.n (.n .no (.n (.lp [0] ⟨.normal,[4],⟨[a],[au],[]⟩⟩ [⟨(.exit 0),[],⟨[],[au],[]⟩⟩] .no) .no)) .no)))) (.cons wB (.cons wC (.nil _))) fun _=>by kernel_rfl
def bj0 :FSum:=⟨190,[c,c],[],[⟨.ret,[],⟨[c],[],[]⟩⟩],by exact u2 oG⟩
theorem au8 :Rt bj0:=rq ((.n .no (.n .no (.n .no (.n .no (.n (.n .no (.n (.lp [2] ⟨.normal,[8],⟨[a],[au],[]⟩⟩ [⟨(.exit 0),[],⟨[],[au],[]⟩⟩] (.n .no (.n (.n (.n .no (.n (.lp [2] ⟨.normal,[9],⟨[a],[au],[]⟩⟩ [⟨(.exit 2),[],⟨[],[au],[]⟩⟩] .no) .no)) .no) .no))) .no)) .no)))))) (.cons wB (.cons wC (.nil _))) fun _=>by kernel_rfl
def bj1 :FSum:=⟨212,[ap,c,c],[],[⟨.ret,[],⟨[c],[],[]⟩⟩],by exact u7 qf⟩
theorem au9 :Rt bj1:=rq (.no) (.cons ab2 (.cons aO5 (.cons au8 (.nil _)))) fun _=>by kernel_rfl
def aI6 :FSum:=⟨160,[m,i],[],[⟨.ret,[],⟨[(.full 0)],[],[b]⟩⟩],by exact u2 nu⟩
theorem yI :Rt aI6:=rq ((.n .no (.n .no (.n (.n .no (.n (.lp [0] ⟨.normal,[6],⟨[a],[b],[]⟩⟩ [⟨(.exit 0),[],⟨[],[b],[]⟩⟩] .no) .no)) .no)))) (.cons tz (.cons au9 (.nil _))) fun _=>by kernel_rfl
def bx8 :FSum:=⟨88,[ai,a],[],[⟨.ret,[],⟨[(.full 0)],[],[b]⟩⟩],by exact u35 vt⟩
theorem bA5 :Rt bx8:=rq ((.n .no (.n .no (.n .no (.n .no (.n (.n .no (.n (.lp [] ⟨.normal,[9,8,7],⟨[a,(.full 4),(.full 5)],[],[b,b]⟩⟩ [⟨(.exit 0),[8,7],⟨[(.full 4),(.full 5)],[],[b,b]⟩⟩] .no) .no)) .no)))))) (.cons pj (.cons yk (.cons tz (.cons yI (.cons su (.nil _)))))) fun _=>by kernel_rfl
def bk6 :FSum:=⟨144,[ai,i,a],[],[y],by exact u36 qk⟩
theorem bm1 :Rt bk6:=rq ((.n .no (.n (.n .no (.n (.lp [] ⟨.normal,[7],⟨[a],[],[]⟩⟩ [⟨.ret,[6],⟨[p],[],[]⟩⟩,⟨(.exit 0),[],⟨[],[],[]⟩⟩] .no) .no)) .no))) (.cons bA5 (.cons am1 (.nil _))) fun _=>by kernel_rfl
def bk0 :FSum:=⟨87,[(.agg [(.leaf an),a])],[],[⟨.ret,[],⟨[(.full 0)],[],[b]⟩⟩],by exact u2 qg⟩
theorem bl8 :Rt bk0:=rq ((.n .no (.n .no (.n (.n .no (.n (.lp [] ⟨.normal,[4,3],⟨[a,w],[],[b]⟩⟩ [⟨(.exit 0),[3],⟨[w],[],[b]⟩⟩] (.n .no (.n (.n (.n .no (.n .no (.n (.lp [] ⟨.normal,[5,3],⟨[a,(.full 5)],[],[b]⟩⟩ [⟨(.exit 2),[3],⟨[(.full 5)],[],[b]⟩⟩] (.n .no (.n (.n (.n .no (.jn [] [] [⟨.normal,[6],⟨[c],[],[]⟩⟩] .no .no)) .no) .no))) .no))) .no) .no))) .no)) .no)))) (.nil _) fun _=>by kernel_rfl
def bk4 :FSum:=⟨75,[ai,i],[],[y],by exact u35 mN⟩
theorem av3 :Rt bk4:=rq (.no) (.cons aY9 (.cons am1 (.cons bm1 (.cons bl8 (.nil _))))) fun _=>by kernel_rfl
def bu3 :FSum:=⟨14,[g,ai],[aj,d,d,h,h,k,ab,r,d],[y],by exact u61 rL⟩
theorem by9 :Rt bu3:=rq (.no) (.cons uS (.cons ab5 (.cons aC7 (.cons ax2 (.cons ak8 (.cons aC0 (.cons tS (.cons uQ (.cons sv (.cons uR (.cons zX (.cons af7 (.cons sR (.cons am0 (.cons ab4 (.cons ak6 (.cons av3 (.nil _)))))))))))))))))) fun _=>by kernel_rfl
def bx6 :FSum:=⟨17,[ai],[],[⟨.ret,[],⟨[be],[],[]⟩⟩],by exact u34 sa⟩
theorem aD0 :Rt bx6:=rq (.no) (.nil _) fun _=>by kernel_rfl
def at4 :FSum:=⟨25,[g],[ah,d,d,h,h,k,ab,r,d],[⟨.ret,[],⟨[a],[ah],[]⟩⟩],by exact u27 mY⟩
theorem au2 :Rt at4:=rq (.no) (.nil _) fun _=>by kernel_rfl
def bw9 :FSum:=⟨206,[a],[],[⟨.ret,[],⟨[(.tup [a,a])],[],[]⟩⟩],vo⟩
theorem bA2 :Rt bw9:=rq (.no) (.nil _) fun _=>by kernel_rfl
def bk1 :FSum:=⟨149,[(.agg [a,a])],[],[y],by exact u2 qh⟩
theorem av1 :Rt bk1:=rq (.no) (.cons bA2 (.nil _)) fun _=>by kernel_rfl
def bj7 :FSum:=⟨289,[aa,i,i],[],[⟨.ret,[],⟨[(.tup [m,a])],[],[]⟩⟩],by exact u4 xU⟩
theorem bl6 :Rt bj7:=rq (.no) (.cons pj (.nil _)) fun _=>by kernel_rfl
def bv9 :FSum:=⟨290,[i],[],[⟨.ret,[],⟨[(.full 0)],[],[b]⟩⟩],nU⟩
theorem aC3 :Rt bv9:=rq ((.n .no (.n .no (.n (.n .no (.n (.lp [] ⟨.normal,[4,3],⟨[a,o],[],[b]⟩⟩ [⟨(.exit 0),[3],⟨[o],[],[b]⟩⟩] .no) .no)) .no)))) (.nil _) fun _=>by kernel_rfl
def aX2 :FSum:=⟨257,[aa,i,i],[],[⟨.ret,[],⟨[(.tup [(.full 0),o,a,a])],[],[b,b]⟩⟩],by exact u4 rT⟩
theorem aY8 :Rt aX2:=rq ((.n .no (.n .no (.n .no (.n .no (.n .no (.n (.n .no (.n (.lp [1,2] ⟨.normal,[14],⟨[a],[b,b],[]⟩⟩ [⟨(.exit 0),[],⟨[],[b,b],[]⟩⟩] .no) .no)) .no))))))) (.cons bl6 (.cons aC3 (.cons au9 (.nil _)))) fun _=>by kernel_rfl
def aI4 :FSum:=⟨291,[ap,c,c],[],[⟨.ret,[],⟨[(.tup [c,c])],[],[]⟩⟩],by exact u7 pz⟩
theorem aI9 :Rt aI4:=rq (.no) (.cons aO5 (.nil _)) fun _=>by kernel_rfl
def bw0 :FSum:=⟨258,[aa,i,i,i],[],[⟨.ret,[],⟨[(.tup [(.full 0),o,a])],[],[b,b]⟩⟩],by exact u5 vj⟩
theorem bz7 :Rt bw0:=rq ((.n .no (.n .no (.n .no (.n .no (.n .no (.n .no (.n .no (.n (.n .no (.n (.lp [1,2] ⟨.normal,[15],⟨[a],[b,b],[]⟩⟩ [⟨(.exit 0),[],⟨[],[b,b],[]⟩⟩] (.n .no (.n (.n (.n .no (.n .no (.n .no (.n .no (.n .no (.n .no (.jn [2] [] [⟨.normal,[],⟨[],[b],[]⟩⟩] .no .no))))))) .no) .no))) .no)) .no))))))))) (.cons pj (.cons aC3 (.cons aI9 (.cons sr (.cons au8 (.cons ab2 (.nil _))))))) fun _=>by kernel_rfl
def bw1 :FSum:=⟨208,[aa,i,i],[],[⟨.ret,[],⟨[(.tup [(.full 0),a])],[],[b]⟩⟩],by exact u4 rU⟩
theorem aC4 :Rt bw1:=rq ((.n .no (.n .no (.n .no (.n .no (.n (.dr [0,1,2,3,5,6,1007,4,7,8,9,10,11,12,13,14,15,16,17]) .no)))))) (.cons pj (.cons tz (.cons aY8 (.cons bz7 (.nil _))))) fun _=>by kernel_rfl
def aI8 :FSum:=⟨157,[(.agg [a,m,a,m,a,i]),a,i,i],[],[⟨.ret,[],⟨[(.tup [i,i,a])],[],[]⟩⟩],by exact u9 pH⟩
theorem aJ1 :Rt aI8:=rq (.no) (.cons yk (.cons aC4 (.nil _))) fun _=>by kernel_rfl
def bI5 :FSum:=⟨156,[i,i],[],[⟨.ret,[],⟨[(.full 0)],[],[b]⟩⟩],by exact u2 tK⟩
theorem aO8 :Rt bI5:=rq ((.n .no (.n .no (.n (.n .no (.n (.lp [] ⟨.normal,[6,5],⟨[a,o],[],[b]⟩⟩ [⟨(.exit 0),[5],⟨[o],[],[b]⟩⟩] .no) .no)) .no)))) (.cons ab2 (.nil _)) fun _=>by kernel_rfl
def bx9 :FSum:=⟨85,[ai,a,i],[],[⟨.ret,[],⟨[(.agg [a,i,i,a,m,a,m,a,a,a,m,a,m,a,i,a,a,a,a,a,a,a,i,(.leaf an),a,(.leaf bb),i,(.full 0),c,a,a,a,a,a])],[],[b]⟩⟩],by exact u36 lb⟩
theorem aD1 :Rt bx9:=rq (.no) (.cons aJ1 (.cons aO8 (.nil _))) fun _=>by kernel_rfl
def bv8 :FSum:=⟨207,[aa,i,a],[],[⟨.ret,[],⟨[(.tup [(.full 0),a])],[],[b]⟩⟩],by exact u4 zg⟩
theorem bz6 :Rt bv8:=rq ((.n .no (.n .no (.n .no (.n .no (.jn [] [] [⟨.normal,[2],⟨[a],[],[]⟩⟩] .no .no)))))) (.cons pj (.cons tz (.cons yI (.nil _)))) fun _=>by kernel_rfl
def bI1 :FSum:=⟨151,[aa,i],[],[⟨.ret,[],⟨[(.tup [(.full 0),a])],[],[b]⟩⟩],by exact u3 tJ⟩
theorem aO6 :Rt bI1:=rq (.no) (.cons bz6 (.nil _)) fun _=>by kernel_rfl
def bw3 :FSum:=⟨80,[(.agg [a,m,a,m,a,i]),a,i],[],[⟨.ret,[],⟨[(.tup [(.full 0),a])],[],[b]⟩⟩],by exact u8 nV⟩
theorem aC5 :Rt bw3:=rq (.no) (.cons yk (.cons aO6 (.nil _))) fun _=>by kernel_rfl
def bw2 :FSum:=⟨154,[(.agg [a,m,a,m,a,i]),i],[],[⟨.ret,[],⟨[(.tup [c,a])],[],[]⟩⟩],by exact u7 vk⟩
theorem bz8 :Rt bw2:=rq (.no) (.cons su (.cons aO6 (.nil _))) fun _=>by kernel_rfl
def aI7 :FSum:=⟨155,[(.agg [a,m,a,m,a,i]),i],[],[⟨.ret,[],⟨[(.tup [i,i,a])],[],[]⟩⟩],by exact u7 pG⟩
theorem aJ0 :Rt aI7:=rq ((.n .no (.n .no (.n (.dr [0,1,2,3,4,1006,5,6,7,8,9,10,11,12]) .no)))) (.cons su (.cons aC4 (.nil _))) fun _=>by kernel_rfl
def bI4 :FSum:=⟨84,[ai,i],[],[⟨.ret,[],⟨[(.agg [a,i,i,a,m,a,m,a,a,a,m,a,m,a,i,a,a,a,a,a,a,a,i,(.leaf an),a,(.leaf bb),i,(.full 0),c,a,a,a,a,a])],[],[b]⟩⟩],by exact u35 mA⟩
theorem aO7 :Rt bI4:=rq (.no) (.cons bz8 (.cons aJ0 (.cons aO8 (.nil _)))) fun _=>by kernel_rfl
def bk5 :FSum:=⟨77,[ai,(.agg [a,a])],[],[⟨.ret,[],⟨[be],[],[]⟩⟩],by exact u36 tw⟩
theorem bm0 :Rt bk5:=rq ((.n .no (.jn [0,1,2] [] [⟨.ret,[5],⟨[(.cint .i64 2)],[ae,(.cells 1 false [a,a]),ae],[]⟩⟩,⟨.normal,[],⟨[],[ae,(.cells 1 false [a,a]),bd],[]⟩⟩] .no .no))) (.cons av1 (.cons aD1 (.cons aC5 (.cons sv (.cons wE (.cons aO7 (.nil _))))))) fun _=>by kernel_rfl
def bx1 :FSum:=⟨150,[(.agg [a,a,(.leaf (.list x))])],[],[⟨.ret,[],⟨[(.agg [a,a,(.full 0)])],[],[l]⟩⟩],by exact u3 rY⟩
theorem aC8 :Rt bx1:=rq ((.n .no (.n .no (.n (.n .no (.n (.lp [2] ⟨.normal,[4],⟨[a],[(.cells 1 false [a,a,(.full 3)])],[l]⟩⟩ [⟨(.exit 0),[],⟨[],[(.cells 1 false [a,a,(.full 3)])],[l]⟩⟩] .no) .no)) .no)))) (.nil _) fun _=>by kernel_rfl
def bU2 :FSum:=⟨78,[a,(.agg [a,a,(.leaf (.list x))])],[],[⟨.ret,[],⟨[(.tup [(.agg [a,a,a,(.full 0),j]),a])],[],[l]⟩⟩],by exact u4 zi⟩
theorem bV0 :Rt bU2:=rq ((.n .no (.n .no (.n (.n .no (.n (.lp [1] ⟨.normal,[6],⟨[a],[(.cells 1 false [j,j,j,NS,j])],[]⟩⟩ [⟨.ret,[5],⟨[(.cint .i64 2)],[(.cells 1 false [j,j,j,NS,j])],[]⟩⟩,⟨(.exit 0),[],⟨[],[(.cells 1 false [j,j,j,NS,j])],[]⟩⟩] .no) .no)) .no)))) (.cons aC8 (.nil _)) fun _=>by kernel_rfl
def bU3 :FSum:=⟨79,[(.agg [a,a,a,(.leaf (.list x)),a]),(.agg [a,a])],[],[⟨.ret,[],⟨[(.tup [(.agg [a,a,a,(.leaf (.list x)),a]),a])],[],[]⟩⟩],by exact u7 zj⟩
theorem bV1 :Rt bU3:=rq ((.n .no (.n .no (.jn [] [] [⟨.normal,[6],⟨[p],[],[]⟩⟩] .no (.jn [0,1,2] [] [⟨.ret,[5],⟨[(.cint .i64 2)],[(.cells 1 false [a,a,a,(.leaf (.list x)),a]),(.cells 1 false [a,a]),(.cells 1 false [a,a,a,(.leaf (.list x)),a])],[]⟩⟩,⟨.normal,[],⟨[],[(.cells 1 false [a,a,a,(.leaf (.list x)),a]),(.cells 1 false [a,a]),(.cells 1 false [j,j,j,NS,j])],[]⟩⟩] .no (.n (.dr [0,1,2,3,5,6,4,7,8,9]) (.n .no (.jn [] [] [⟨.normal,[8],⟨[a],[],[]⟩⟩] .no (.n (.n .no (.n (.n .no (.n .no (.n .no (.n .no (.jn [] [] [⟨.normal,[115],⟨[p],[],[]⟩⟩] .no .no))))) .no)) .no))))))))) (.cons av1 (.cons aC8 (.nil _))) fun _=>by kernel_rfl
def bw8 :FSum:=⟨153,[(.agg [(.leaf an),a]),a,(.agg [a,i])],[],[⟨.ret,[],⟨[(.agg [(.full 0),a])],[],[(.arr false ay)]⟩⟩],by exact u5 rW⟩
theorem aC6 :Rt bw8:=rq ((.n .no (.n .no (.n (.n .no (.n (.lp [0,1,2,3] ⟨.normal,[8],⟨[a],[(.cells 1 false [(.leaf an),a]),(.cells 1 false [a,i]),(.cells 1 false [NS,j]),(.cells 1 false [(.full 4),a])],[(.arr false ay)]⟩⟩ [⟨(.exit 0),[],⟨[],[(.cells 1 false [(.leaf an),a]),(.cells 1 false [a,i]),(.cells 1 false [NS,j]),(.cells 1 false [(.full 4),a])],[(.arr false ay)]⟩⟩] .no) .no)) .no)))) (.nil _) fun _=>by kernel_rfl
def bj9 :FSum:=⟨81,[(.agg [(.leaf an),a]),a,a,i],[],[⟨.ret,[],⟨[(.tup [(.agg [(.leaf an),a]),a])],[],[]⟩⟩],by exact u5 tt⟩
theorem bl7 :Rt bj9:=rq (.no) (.cons aC6 (.nil _)) fun _=>by kernel_rfl
def aS3 :FSum:=⟨82,[(.agg [(.leaf an),a]),a],[],[⟨.ret,[],⟨[(.tup [a,i,a])],[],[]⟩⟩],by exact u3 qB⟩
theorem aT0 :Rt aS3:=rq (.no) (.nil _) fun _=>by kernel_rfl
def bw5 :FSum:=⟨83,[(.agg [(.leaf an),a]),a],[],[⟨.ret,[],⟨[(.tup [(.agg [(.leaf an),a]),a])],[],[]⟩⟩],by exact u3 vl⟩
theorem bz9 :Rt bw5:=rq (.no) (.cons aC6 (.nil _)) fun _=>by kernel_rfl
def bU5 :FSum:=⟨18,[ai,(.agg [a,a])],[],[⟨.ret,[],⟨[be],[],[]⟩⟩],by exact u36 qN⟩
theorem aZ0 :Rt bU5:=rq ((.n .no (.n .no (.n (.dr [0,1,2,3,4,5,6,7,8,9,10]) (.n .no (.n .no (.n .no (.n .no (.n .no (.jn [0,1,2,3,5,6] [] [⟨.normal,[10],⟨[a],[ae,(.cells 1 false [a,a]),bd,l,(.cells 1 false [a,a,a,(.full 4),j]),(.cells 1 false [a,a,a,(.leaf (.list x)),a])],[]⟩⟩] (.n .no (.n (.n .no (.n (.n .no (.n (.lp [0,1,2,3,5,6] ⟨.normal,[14],⟨[a],[ae,(.cells 1 false [a,a]),bd,l,(.cells 1 false [a,a,a,(.full 4),j]),(.cells 1 false [a,a,a,(.leaf (.list x)),a])],[]⟩⟩ [⟨(.exit 1),[],⟨[],[ae,(.cells 1 false [a,a]),bd,l,(.cells 1 false [a,a,a,(.full 4),j]),(.cells 1 false [a,a,a,(.leaf (.list x)),a])],[]⟩⟩] .no) .no)) .no)) .no)) .no)))))))))) (.cons bm0 (.cons ab5 (.cons bV0 (.cons bV1 (.cons wE (.cons sv (.cons aC5 (.cons bl7 (.cons aT0 (.cons bz9 (.cons aO7 (.cons aD1 (.nil _))))))))))))) fun _=>by kernel_rfl
def bT9 :FSum:=⟨15,[g,ai,(.agg [a,a])],[ah,d,d,h,h,k,ab,q,b],[⟨.ret,[],⟨[(.tup [p,ai])],[ah,q,b],[]⟩⟩],by exact u63 ze⟩
theorem bU8 :Rt bT9:=rq (.no) (.cons aD0 (.cons au2 (.cons aZ0 (.cons xD (.nil _))))) fun _=>by kernel_rfl
def aj1 :FSum:=⟨70,[g],[ak,d,d,h,h,k,ac,ad,r,d],[v],by exact u30 oY⟩
theorem ak7 :Rt aj1:=rq (.no) (.nil _) fun _=>by kernel_rfl
def zt :FSum:=⟨30,[g],[ak,d,d,h,h,k,ac,ad,r,d],[⟨.ret,[],⟨[(.full 10)],[],[b]⟩⟩],by exact u30 kY⟩
theorem zY :Rt zt:=rq (.no) (.cons dx (.nil _)) fun _=>by kernel_rfl
def ag6 :FSum:=⟨71,[g],[ak,d,d,h,h,k,ac,ad,r,d],[v],by exact u30 jL⟩
theorem sP :Rt ag6:=rq (.no) (.cons wz (.nil _)) fun _=>by kernel_rfl
def ag8 :FSum:=⟨73,[g],[ak,d,d,h,h,k,ac,ad,r,d],[v],by exact u30 jM⟩
theorem sQ :Rt ag8:=rq (.no) (.cons wA (.nil _)) fun _=>by kernel_rfl
def xW :FSum:=⟨24,[g],[ak,d,d,h,h,k,ac,ad,r,d],[⟨.ret,[],⟨[(.agg [c,c,c,c,c,c,c,c,c,c,c,c,c,c,c,c])],[],[]⟩⟩],by exact u30 jX⟩
theorem ye :Rt xW:=rq ((.n .no (.n .no (.n .no (.n .no (.n (.n .no (.n (.lp [11] ⟨.normal,[50],⟨[a],[(.cells 1 false [c,c,c,c,c,c,c,c,c,c,c,c,c,c,c,c])],[]⟩⟩ [⟨(.exit 0),[],⟨[],[(.cells 1 false [c,c,c,c,c,c,c,c,c,c,c,c,c,c,c,c])],[]⟩⟩] .no) .no)) .no)))))) (.cons sP (.cons sQ (.nil _))) fun _=>by kernel_rfl
def zq :FSum:=⟨23,[g],[ak,d,d,h,h,k,ac,ad,r,d],[⟨.ret,[],⟨[(.full 10)],[],[b]⟩⟩],by exact u30 kW⟩
theorem zW :Rt zq:=rq (.no) (.cons uO (.nil _)) fun _=>by kernel_rfl
def aV8 :FSum:=⟨14,[g,ai],[ak,d,d,h,h,k,ac,ad,r,d],[y],by exact u64 pc⟩
theorem aY0 :Rt aV8:=rq (.no) (.cons sS (.cons ab5 (.cons aC7 (.cons ak7 (.cons zY (.cons aC0 (.cons sj (.cons sP (.cons sv (.cons sQ (.cons ye (.cons af7 (.cons re (.cons am0 (.cons ab4 (.cons zW (.cons av3 (.nil _)))))))))))))))))) fun _=>by kernel_rfl
def ag7 :FSum:=⟨25,[g],[ag,d,d,h,h,k,ac,ad,r,d],[⟨.ret,[],⟨[a],[ag],[]⟩⟩],by exact u30 lP⟩
theorem ah7 :Rt ag7:=rq (.no) (.nil _) fun _=>by kernel_rfl
def bu1 :FSum:=⟨15,[g,ai,(.agg [a,a])],[ag,d,d,h,h,k,ac,ad,q,b],[⟨.ret,[],⟨[(.tup [p,ai])],[ag,q,b],[]⟩⟩],by exact u66 vd⟩
theorem by7 :Rt bu1:=rq (.no) (.cons aD0 (.cons ah7 (.cons aZ0 (.cons uP (.nil _))))) fun _=>by kernel_rfl
def qO :FSum:=⟨3,[af,(.leaf (.list (.pair x x)))],[],[y],by exact u10 qM⟩
theorem ax4 :Rt qO:=rq ((.n .no (.n (.jn [] [] [⟨.normal,[19],⟨[p],[],[]⟩⟩] .no .no) (.n .no (.n .no (.n .no (.sz 15 (.n .no (.n (.n .no (.n (.sz 15 (.lp [0,1,9,10,14] ⟨.normal,[9],⟨[a],[al,aw,q,b,ae],[]⟩⟩ [⟨.ret,[4],⟨[p],[al,aw,q,b,ae],[]⟩⟩,⟨(.exit 0),[],⟨[],[al,aw,q,b,ae],[]⟩⟩] (.n .no (.n (.n (.n (.sz 15 (.dr [0,1,2,3,4,5,6,7,8,9,10,11,12]) (.dr [0,1,2,3,4,5,6,7,8,9,10,11,12])) .no) .no) .no))) (.lp [0,1,8,9,13] ⟨.normal,[9],⟨[a],[al,av,q,b,ae],[]⟩⟩ [⟨.ret,[4],⟨[p],[al,av,q,b,ae],[]⟩⟩,⟨(.exit 0),[],⟨[],[al,av,q,b,ae],[]⟩⟩] (.n .no (.n (.n (.n (.sz 15 (.dr [0,1,2,3,4,5,6,7,8,9,10,11,12]) (.dr [0,1,2,3,4,5,6,7,8,9,10,11,12])) .no) .no) .no)))) .no)) .no)) (.sz 2014 (.n .no (.n (.n .no (.n (.sz 15 (.lp [0,1,9,10,14] ⟨.normal,[9],⟨[a],[al,aw,q,b,ae],[]⟩⟩ [⟨.ret,[4],⟨[p],[al,aw,q,b,ae],[]⟩⟩,⟨(.exit 0),[],⟨[],[al,aw,q,b,ae],[]⟩⟩] (.n .no (.n (.n (.n (.sz 15 (.dr [0,1,2,3,4,5,6,7,8,9,10,11,12]) (.dr [0,1,2,3,4,5,6,7,8,9,10,11,12])) .no) .no) .no))) (.lp [0,1,8,9,13] ⟨.normal,[9],⟨[a],[al,av,q,b,ae],[]⟩⟩ [⟨.ret,[4],⟨[p],[al,av,q,b,ae],[]⟩⟩,⟨(.exit 0),[],⟨[],[al,av,q,b,ae],[]⟩⟩] (.n .no (.n (.n (.n (.sz 15 (.dr [0,1,2,3,4,5,6,7,8,9,10,11,12]) (.dr [0,1,2,3,4,5,6,7,8,9,10,11,12])) .no) .no) .no)))) .no)) .no)) (.n .no (.n (.n .no (.n (.sz 15 (.lp [0,1,9,10,14] ⟨.normal,[9],⟨[a],[al,aw,q,b,ae],[]⟩⟩ [⟨.ret,[4],⟨[p],[al,aw,q,b,ae],[]⟩⟩,⟨(.exit 0),[],⟨[],[al,aw,q,b,ae],[]⟩⟩] (.n .no (.n (.n (.n (.sz 15 (.dr [0,1,2,3,4,5,6,7,8,9,10,11,12]) (.dr [0,1,2,3,4,5,6,7,8,9,10,11,12])) .no) .no) .no))) (.lp [0,1,8,9,13] ⟨.normal,[9],⟨[a],[al,av,q,b,ae],[]⟩⟩ [⟨.ret,[4],⟨[p],[al,av,q,b,ae],[]⟩⟩,⟨(.exit 0),[],⟨[],[al,av,q,b,ae],[]⟩⟩] (.n .no (.n (.n (.n (.sz 15 (.dr [0,1,2,3,4,5,6,7,8,9,10,11,12]) (.dr [0,1,2,3,4,5,6,7,8,9,10,11,12])) .no) .no) .no)))) .no)) .no)))))))))) (.cons bl2 (.cons by8 (.cons aO2 (.cons bJ4 (.cons by9 (.cons bU8 (.cons aY0 (.cons by7 (.nil _))))))))) fun _=>by kernel_rfl
end
end Go.V
