/- A part of the proofs of this claim: what functions of the program answer on an abstract machine, and plain laws. No condition. -/
import Derived.Test.YtpipfcfblmfnjaaGreatD2
import Derived.Test.YtpipfcfblmfnjaaGreatRows
import Derived.KernelRfl
set_option linter.unusedVariables false
set_option linter.unusedSimpArgs false
set_option linter.unusedSectionVars false
namespace Go.V
open Go.Ab Go.Proofs
section
open Tryz renaming prog → aB
abbrev u2 {a b c:Type}(f:a→b→c)(t:a×b):c:=f t.1 t.2
abbrev u3 {x0 x1 x2 x3:Type}(f:x0→x1→x2→x3)(t:x0×x1×x2):x3:=u2 (f t.1) t.2
abbrev u4 {x0 x1 x2 x3 x4:Type}(f:x0→x1→x2→x3→x4)(t:x0×x1×x2×x3):x4:=u3 (f t.1) t.2
abbrev u5 {x0 x1 x2 x3 x4 x5:Type}(f:x0→x1→x2→x3→x4→x5)(t:x0×x1×x2×x3×x4):x5:=u4 (f t.1) t.2
abbrev u6 {x0 x1 x2 x3 x4 x5 x6:Type}(f:x0→x1→x2→x3→x4→x5→x6)(t:x0×x1×x2×x3×x4×x5):x6:=u5 (f t.1) t.2
abbrev u7 {x0 x1 x2 x3 x4 x5 x6 x7:Type}(f:x0→x1→x2→x3→x4→x5→x6→x7)(t:x0×x1×x2×x3×x4×x5×x6):x7:=u6 (f t.1) t.2
abbrev u8 {x0 x1 x2 x3 x4 x5 x6 x7 x8:Type}(f:x0→x1→x2→x3→x4→x5→x6→x7→x8)(t:x0×x1×x2×x3×x4×x5×x6×x7):x8:=u7 (f t.1) t.2
abbrev u9 {x0 x1 x2 x3 x4 x5 x6 x7 x8 x9:Type}(f:x0→x1→x2→x3→x4→x5→x6→x7→x8→x9)(t:x0×x1×x2×x3×x4×x5×x6×x7×x8):x9:=u8 (f t.1) t.2
abbrev u10 {x0 x1 x2 x3 x4 x5 x6 x7 x8 x9 x10:Type}(f:x0→x1→x2→x3→x4→x5→x6→x7→x8→x9→x10)(t:x0×x1×x2×x3×x4×x5×x6×x7×x8×x9):x10:=u9 (f t.1) t.2
abbrev u11 {x0 x1 x2 x3 x4 x5 x6 x7 x8 x9 x10 x11:Type}(f:x0→x1→x2→x3→x4→x5→x6→x7→x8→x9→x10→x11)(t:x0×x1×x2×x3×x4×x5×x6×x7×x8×x9×x10):x11:=u10 (f t.1) t.2
abbrev u12 {x0 x1 x2 x3 x4 x5 x6 x7 x8 x9 x10 x11 x12:Type}(f:x0→x1→x2→x3→x4→x5→x6→x7→x8→x9→x10→x11→x12)(t:x0×x1×x2×x3×x4×x5×x6×x7×x8×x9×x10×x11):x12:=u11 (f t.1) t.2
abbrev u13 {x0 x1 x2 x3 x4 x5 x6 x7 x8 x9 x10 x11 x12 x13:Type}(f:x0→x1→x2→x3→x4→x5→x6→x7→x8→x9→x10→x11→x12→x13)(t:x0×x1×x2×x3×x4×x5×x6×x7×x8×x9×x10×x11×x12):x13:=u12 (f t.1) t.2
abbrev u14 {x0 x1 x2 x3 x4 x5 x6 x7 x8 x9 x10 x11 x12 x13 x14:Type}(f:x0→x1→x2→x3→x4→x5→x6→x7→x8→x9→x10→x11→x12→x13→x14)(t:x0×x1×x2×x3×x4×x5×x6×x7×x8×x9×x10×x11×x12×x13):x14:=u13 (f t.1) t.2
abbrev u15 {x0 x1 x2 x3 x4 x5 x6 x7 x8 x9 x10 x11 x12 x13 x14 x15:Type}(f:x0→x1→x2→x3→x4→x5→x6→x7→x8→x9→x10→x11→x12→x13→x14→x15)(t:x0×x1×x2×x3×x4×x5×x6×x7×x8×x9×x10×x11×x12×x13×x14):x15:=u14 (f t.1) t.2
abbrev u16 {x0 x1 x2 x3 x4 x5 x6 x7 x8 x9 x10 x11 x12 x13 x14 x15 x16:Type}(f:x0→x1→x2→x3→x4→x5→x6→x7→x8→x9→x10→x11→x12→x13→x14→x15→x16)(t:x0×x1×x2×x3×x4×x5×x6×x7×x8×x9×x10×x11×x12×x13×x14×x15):x16:=u15 (f t.1) t.2
abbrev u17 {x0 x1 x2 x3 x4 x5 x6 x7 x8 x9 x10 x11 x12 x13 x14 x15 x16 x17:Type}(f:x0→x1→x2→x3→x4→x5→x6→x7→x8→x9→x10→x11→x12→x13→x14→x15→x16→x17)(t:x0×x1×x2×x3×x4×x5×x6×x7×x8×x9×x10×x11×x12×x13×x14×x15×x16):x17:=u16 (f t.1) t.2
abbrev u18 {x0 x1 x2 x3 x4 x5 x6 x7 x8 x9 x10 x11 x12 x13 x14 x15 x16 x17 x18:Type}(f:x0→x1→x2→x3→x4→x5→x6→x7→x8→x9→x10→x11→x12→x13→x14→x15→x16→x17→x18)(t:x0×x1×x2×x3×x4×x5×x6×x7×x8×x9×x10×x11×x12×x13×x14×x15×x16×x17):x18:=u17 (f t.1) t.2
abbrev u19 {x0 x1 x2 x3 x4 x5 x6 x7 x8 x9 x10 x11 x12 x13 x14 x15 x16 x17 x18 x19:Type}(f:x0→x1→x2→x3→x4→x5→x6→x7→x8→x9→x10→x11→x12→x13→x14→x15→x16→x17→x18→x19)(t:x0×x1×x2×x3×x4×x5×x6×x7×x8×x9×x10×x11×x12×x13×x14×x15×x16×x17×x18):x19:=u18 (f t.1) t.2
abbrev u20 {x0 x1 x2 x3 x4 x5 x6 x7 x8 x9 x10 x11 x12 x13 x14 x15 x16 x17 x18 x19 x20:Type}(f:x0→x1→x2→x3→x4→x5→x6→x7→x8→x9→x10→x11→x12→x13→x14→x15→x16→x17→x18→x19→x20)(t:x0×x1×x2×x3×x4×x5×x6×x7×x8×x9×x10×x11×x12×x13×x14×x15×x16×x17×x18×x19):x20:=u19 (f t.1) t.2
abbrev u21 {x0 x1 x2 x3 x4 x5 x6 x7 x8 x9 x10 x11 x12 x13 x14 x15 x16 x17 x18 x19 x20 x21:Type}(f:x0→x1→x2→x3→x4→x5→x6→x7→x8→x9→x10→x11→x12→x13→x14→x15→x16→x17→x18→x19→x20→x21)(t:x0×x1×x2×x3×x4×x5×x6×x7×x8×x9×x10×x11×x12×x13×x14×x15×x16×x17×x18×x19×x20):x21:=u20 (f t.1) t.2
abbrev u22 {x0 x1 x2 x3 x4 x5 x6 x7 x8 x9 x10 x11 x12 x13 x14 x15 x16 x17 x18 x19 x20 x21 x22:Type}(f:x0→x1→x2→x3→x4→x5→x6→x7→x8→x9→x10→x11→x12→x13→x14→x15→x16→x17→x18→x19→x20→x21→x22)(t:x0×x1×x2×x3×x4×x5×x6×x7×x8×x9×x10×x11×x12×x13×x14×x15×x16×x17×x18×x19×x20×x21):x22:=u21 (f t.1) t.2
abbrev u23 {x0 x1 x2 x3 x4 x5 x6 x7 x8 x9 x10 x11 x12 x13 x14 x15 x16 x17 x18 x19 x20 x21 x22 x23:Type}(f:x0→x1→x2→x3→x4→x5→x6→x7→x8→x9→x10→x11→x12→x13→x14→x15→x16→x17→x18→x19→x20→x21→x22→x23)(t:x0×x1×x2×x3×x4×x5×x6×x7×x8×x9×x10×x11×x12×x13×x14×x15×x16×x17×x18×x19×x20×x21×x22):x23:=u22 (f t.1) t.2
abbrev u24 {x0 x1 x2 x3 x4 x5 x6 x7 x8 x9 x10 x11 x12 x13 x14 x15 x16 x17 x18 x19 x20 x21 x22 x23 x24:Type}(f:x0→x1→x2→x3→x4→x5→x6→x7→x8→x9→x10→x11→x12→x13→x14→x15→x16→x17→x18→x19→x20→x21→x22→x23→x24)(t:x0×x1×x2×x3×x4×x5×x6×x7×x8×x9×x10×x11×x12×x13×x14×x15×x16×x17×x18×x19×x20×x21×x22×x23):x24:=u23 (f t.1) t.2
abbrev u25 {x0 x1 x2 x3 x4 x5 x6 x7 x8 x9 x10 x11 x12 x13 x14 x15 x16 x17 x18 x19 x20 x21 x22 x23 x24 x25:Type}(f:x0→x1→x2→x3→x4→x5→x6→x7→x8→x9→x10→x11→x12→x13→x14→x15→x16→x17→x18→x19→x20→x21→x22→x23→x24→x25)(t:x0×x1×x2×x3×x4×x5×x6×x7×x8×x9×x10×x11×x12×x13×x14×x15×x16×x17×x18×x19×x20×x21×x22×x23×x24):x25:=u24 (f t.1) t.2
abbrev u26 {x0 x1 x2 x3 x4 x5 x6 x7 x8 x9 x10 x11 x12 x13 x14 x15 x16 x17 x18 x19 x20 x21 x22 x23 x24 x25 x26:Type}(f:x0→x1→x2→x3→x4→x5→x6→x7→x8→x9→x10→x11→x12→x13→x14→x15→x16→x17→x18→x19→x20→x21→x22→x23→x24→x25→x26)(t:x0×x1×x2×x3×x4×x5×x6×x7×x8×x9×x10×x11×x12×x13×x14×x15×x16×x17×x18×x19×x20×x21×x22×x23×x24×x25):x26:=u25 (f t.1) t.2
abbrev u27 {x0 x1 x2 x3 x4 x5 x6 x7 x8 x9 x10 x11 x12 x13 x14 x15 x16 x17 x18 x19 x20 x21 x22 x23 x24 x25 x26 x27:Type}(f:x0→x1→x2→x3→x4→x5→x6→x7→x8→x9→x10→x11→x12→x13→x14→x15→x16→x17→x18→x19→x20→x21→x22→x23→x24→x25→x26→x27)(t:x0×x1×x2×x3×x4×x5×x6×x7×x8×x9×x10×x11×x12×x13×x14×x15×x16×x17×x18×x19×x20×x21×x22×x23×x24×x25×x26):x27:=u26 (f t.1) t.2
abbrev u28 {x0 x1 x2 x3 x4 x5 x6 x7 x8 x9 x10 x11 x12 x13 x14 x15 x16 x17 x18 x19 x20 x21 x22 x23 x24 x25 x26 x27 x28:Type}(f:x0→x1→x2→x3→x4→x5→x6→x7→x8→x9→x10→x11→x12→x13→x14→x15→x16→x17→x18→x19→x20→x21→x22→x23→x24→x25→x26→x27→x28)(t:x0×x1×x2×x3×x4×x5×x6×x7×x8×x9×x10×x11×x12×x13×x14×x15×x16×x17×x18×x19×x20×x21×x22×x23×x24×x25×x26×x27):x28:=u27 (f t.1) t.2
abbrev u29 {x0 x1 x2 x3 x4 x5 x6 x7 x8 x9 x10 x11 x12 x13 x14 x15 x16 x17 x18 x19 x20 x21 x22 x23 x24 x25 x26 x27 x28 x29:Type}(f:x0→x1→x2→x3→x4→x5→x6→x7→x8→x9→x10→x11→x12→x13→x14→x15→x16→x17→x18→x19→x20→x21→x22→x23→x24→x25→x26→x27→x28→x29)(t:x0×x1×x2×x3×x4×x5×x6×x7×x8×x9×x10×x11×x12×x13×x14×x15×x16×x17×x18×x19×x20×x21×x22×x23×x24×x25×x26×x27×x28):x29:=u28 (f t.1) t.2
abbrev u30 {x0 x1 x2 x3 x4 x5 x6 x7 x8 x9 x10 x11 x12 x13 x14 x15 x16 x17 x18 x19 x20 x21 x22 x23 x24 x25 x26 x27 x28 x29 x30:Type}(f:x0→x1→x2→x3→x4→x5→x6→x7→x8→x9→x10→x11→x12→x13→x14→x15→x16→x17→x18→x19→x20→x21→x22→x23→x24→x25→x26→x27→x28→x29→x30)(t:x0×x1×x2×x3×x4×x5×x6×x7×x8×x9×x10×x11×x12×x13×x14×x15×x16×x17×x18×x19×x20×x21×x22×x23×x24×x25×x26×x27×x28×x29):x30:=u29 (f t.1) t.2
abbrev u31 {x0 x1 x2 x3 x4 x5 x6 x7 x8 x9 x10 x11 x12 x13 x14 x15 x16 x17 x18 x19 x20 x21 x22 x23 x24 x25 x26 x27 x28 x29 x30 x31:Type}(f:x0→x1→x2→x3→x4→x5→x6→x7→x8→x9→x10→x11→x12→x13→x14→x15→x16→x17→x18→x19→x20→x21→x22→x23→x24→x25→x26→x27→x28→x29→x30→x31)(t:x0×x1×x2×x3×x4×x5×x6×x7×x8×x9×x10×x11×x12×x13×x14×x15×x16×x17×x18×x19×x20×x21×x22×x23×x24×x25×x26×x27×x28×x29×x30):x31:=u30 (f t.1) t.2
abbrev u32 {x0 x1 x2 x3 x4 x5 x6 x7 x8 x9 x10 x11 x12 x13 x14 x15 x16 x17 x18 x19 x20 x21 x22 x23 x24 x25 x26 x27 x28 x29 x30 x31 x32:Type}(f:x0→x1→x2→x3→x4→x5→x6→x7→x8→x9→x10→x11→x12→x13→x14→x15→x16→x17→x18→x19→x20→x21→x22→x23→x24→x25→x26→x27→x28→x29→x30→x31→x32)(t:x0×x1×x2×x3×x4×x5×x6×x7×x8×x9×x10×x11×x12×x13×x14×x15×x16×x17×x18×x19×x20×x21×x22×x23×x24×x25×x26×x27×x28×x29×x30×x31):x32:=u31 (f t.1) t.2
abbrev u33 {x0 x1 x2 x3 x4 x5 x6 x7 x8 x9 x10 x11 x12 x13 x14 x15 x16 x17 x18 x19 x20 x21 x22 x23 x24 x25 x26 x27 x28 x29 x30 x31 x32 x33:Type}(f:x0→x1→x2→x3→x4→x5→x6→x7→x8→x9→x10→x11→x12→x13→x14→x15→x16→x17→x18→x19→x20→x21→x22→x23→x24→x25→x26→x27→x28→x29→x30→x31→x32→x33)(t:x0×x1×x2×x3×x4×x5×x6×x7×x8×x9×x10×x11×x12×x13×x14×x15×x16×x17×x18×x19×x20×x21×x22×x23×x24×x25×x26×x27×x28×x29×x30×x31×x32):x33:=u32 (f t.1) t.2
abbrev u34 {x0 x1 x2 x3 x4 x5 x6 x7 x8 x9 x10 x11 x12 x13 x14 x15 x16 x17 x18 x19 x20 x21 x22 x23 x24 x25 x26 x27 x28 x29 x30 x31 x32 x33 x34:Type}(f:x0→x1→x2→x3→x4→x5→x6→x7→x8→x9→x10→x11→x12→x13→x14→x15→x16→x17→x18→x19→x20→x21→x22→x23→x24→x25→x26→x27→x28→x29→x30→x31→x32→x33→x34)(t:x0×x1×x2×x3×x4×x5×x6×x7×x8×x9×x10×x11×x12×x13×x14×x15×x16×x17×x18×x19×x20×x21×x22×x23×x24×x25×x26×x27×x28×x29×x30×x31×x32×x33):x34:=u33 (f t.1) t.2
abbrev u35 {x0 x1 x2 x3 x4 x5 x6 x7 x8 x9 x10 x11 x12 x13 x14 x15 x16 x17 x18 x19 x20 x21 x22 x23 x24 x25 x26 x27 x28 x29 x30 x31 x32 x33 x34 x35:Type}(f:x0→x1→x2→x3→x4→x5→x6→x7→x8→x9→x10→x11→x12→x13→x14→x15→x16→x17→x18→x19→x20→x21→x22→x23→x24→x25→x26→x27→x28→x29→x30→x31→x32→x33→x34→x35)(t:x0×x1×x2×x3×x4×x5×x6×x7×x8×x9×x10×x11×x12×x13×x14×x15×x16×x17×x18×x19×x20×x21×x22×x23×x24×x25×x26×x27×x28×x29×x30×x31×x32×x33×x34):x35:=u34 (f t.1) t.2
abbrev u36 {x0 x1 x2 x3 x4 x5 x6 x7 x8 x9 x10 x11 x12 x13 x14 x15 x16 x17 x18 x19 x20 x21 x22 x23 x24 x25 x26 x27 x28 x29 x30 x31 x32 x33 x34 x35 x36:Type}(f:x0→x1→x2→x3→x4→x5→x6→x7→x8→x9→x10→x11→x12→x13→x14→x15→x16→x17→x18→x19→x20→x21→x22→x23→x24→x25→x26→x27→x28→x29→x30→x31→x32→x33→x34→x35→x36)(t:x0×x1×x2×x3×x4×x5×x6×x7×x8×x9×x10×x11×x12×x13×x14×x15×x16×x17×x18×x19×x20×x21×x22×x23×x24×x25×x26×x27×x28×x29×x30×x31×x32×x33×x34×x35):x36:=u35 (f t.1) t.2
abbrev u37 {x0 x1 x2 x3 x4 x5 x6 x7 x8 x9 x10 x11 x12 x13 x14 x15 x16 x17 x18 x19 x20 x21 x22 x23 x24 x25 x26 x27 x28 x29 x30 x31 x32 x33 x34 x35 x36 x37:Type}(f:x0→x1→x2→x3→x4→x5→x6→x7→x8→x9→x10→x11→x12→x13→x14→x15→x16→x17→x18→x19→x20→x21→x22→x23→x24→x25→x26→x27→x28→x29→x30→x31→x32→x33→x34→x35→x36→x37)(t:x0×x1×x2×x3×x4×x5×x6×x7×x8×x9×x10×x11×x12×x13×x14×x15×x16×x17×x18×x19×x20×x21×x22×x23×x24×x25×x26×x27×x28×x29×x30×x31×x32×x33×x34×x35×x36):x37:=u36 (f t.1) t.2
abbrev u38 {x0 x1 x2 x3 x4 x5 x6 x7 x8 x9 x10 x11 x12 x13 x14 x15 x16 x17 x18 x19 x20 x21 x22 x23 x24 x25 x26 x27 x28 x29 x30 x31 x32 x33 x34 x35 x36 x37 x38:Type}(f:x0→x1→x2→x3→x4→x5→x6→x7→x8→x9→x10→x11→x12→x13→x14→x15→x16→x17→x18→x19→x20→x21→x22→x23→x24→x25→x26→x27→x28→x29→x30→x31→x32→x33→x34→x35→x36→x37→x38)(t:x0×x1×x2×x3×x4×x5×x6×x7×x8×x9×x10×x11×x12×x13×x14×x15×x16×x17×x18×x19×x20×x21×x22×x23×x24×x25×x26×x27×x28×x29×x30×x31×x32×x33×x34×x35×x36×x37):x38:=u37 (f t.1) t.2
abbrev u39 {x0 x1 x2 x3 x4 x5 x6 x7 x8 x9 x10 x11 x12 x13 x14 x15 x16 x17 x18 x19 x20 x21 x22 x23 x24 x25 x26 x27 x28 x29 x30 x31 x32 x33 x34 x35 x36 x37 x38 x39:Type}(f:x0→x1→x2→x3→x4→x5→x6→x7→x8→x9→x10→x11→x12→x13→x14→x15→x16→x17→x18→x19→x20→x21→x22→x23→x24→x25→x26→x27→x28→x29→x30→x31→x32→x33→x34→x35→x36→x37→x38→x39)(t:x0×x1×x2×x3×x4×x5×x6×x7×x8×x9×x10×x11×x12×x13×x14×x15×x16×x17×x18×x19×x20×x21×x22×x23×x24×x25×x26×x27×x28×x29×x30×x31×x32×x33×x34×x35×x36×x37×x38):x39:=u38 (f t.1) t.2
abbrev Rt :=sH aB
theorem rq {P:Program}{f:FuncId}{tab:List FSum}{vals:List Sk}{objs:List OSk}{outs:List Alt}{run:Tup (tZ.shs ⟨vals,[],objs⟩)→Option (rG outs)}(at':AT)(ht:gT P tab)(he: ∀t,aT7 P f ⟨tab,[]⟩ vals objs outs at' t=run t):sH P ⟨f,vals,objs,outs,run⟩:=cn0 ht he
abbrev NS :Sk:= .nils
set_option maxRecDepth 100000
abbrev au :Sh:=(.int .i64)
abbrev bt :Sh:=(.int .u64)
abbrev ae :Sh:=(.list bt)
abbrev y :Sh:=(.list au)
abbrev cd :Sh:=(.pair au bt)
abbrev bw :Sh:=(.pair au au)
abbrev ce :Sh:=(.pair au cd)
abbrev cf :Sh:=(.pair au (.pair bt au))
abbrev cg :Sh:=(.pair au ce)
abbrev ci :Sh:=(.pair au cf)
abbrev av :Sh:=(.pair au cg)
abbrev cc :Sh:=(.pair au ci)
abbrev cb :Sh:=(.list av)
abbrev bn :Sh:=(.pair au cc)
abbrev aa :Sk:=(.full 4)
abbrev ab :Sk:=(.full 5)
abbrev w :Sk:=(.full 3)
abbrev v :Sk:=(.full 2)
abbrev ai :Sk:=(.full 6)
abbrev d :Sk:=(.ptr 0 0)
abbrev ao :Sk:=(.ptr 7 0)
abbrev ca :Sk:=(.ptr 2 0)
abbrev bd :Sk:=(.ptr 8 0)
abbrev ap :Sk:=(.ptr 9 0)
abbrev a :Sk:=(.leaf au)
abbrev m :Sk:=(.leaf bt)
abbrev bm :Sk:=(.ptr 10 0)
abbrev ad :Sk:=(.leaf cb)
abbrev h :Sk:=(.leaf .bool)
abbrev j :Sk:=(.cint .i64 0)
abbrev ar :Sk:=(.tup [a,a])
abbrev af :Sk:=(.agg [a,ad])
abbrev bo :Sk:=(.agg [a,a,a,a,m])
abbrev bz :Sk:=(.agg [a,a,(.leaf y),a,a,a,a,a])
abbrev aj :Sk:=(.agg [a,(.leaf ae),(.leaf ae),a,ad,a,ad,a,a])
abbrev c :OSk:=(.arr true bt)
abbrev k :OSk:=(.arr true au)
abbrev l :OSk:=(.arr false au)
abbrev r :OSk:=(.arr false bw)
abbrev b :OSk:=(.arr false bt)
abbrev g :OSk:=(.arr true av)
abbrev ag :OSk:=(.cells 1 true [(.full 8),a])
abbrev x :OSk:=(.cells 1 true [(.full 9),a])
abbrev o :OSk:=(.cells 1 true [a,a,a])
abbrev ak :OSk:=(.cells 1 true [(.full 10),a])
abbrev i :OSk:=(.cells 1 false [a,a,a])
abbrev al :OSk:=(.cells 1 true [a,a,a,ao])
abbrev ah :OSk:=(.cells 1 true [a,a,a,(.ptr 6 0)])
abbrev ay :OSk:=(.cells 1 false [a,a,a,a,(.full 1)])
abbrev az :OSk:=(.cells 1 false [ca,a,(.fn 38 [] []),h,h])
abbrev ba :OSk:=(.cells 1 false [ca,a,(.fn 37 [] []),h,h])
abbrev bb :OSk:=(.cells 1 false [ca,a,(.fn 39 [] []),h,h])
abbrev bq :OSk:=(.cells 1 true [(.ptr 1 0),a,(.fn 39 [] []),h,h])
abbrev br :OSk:=(.cells 1 true [(.ptr 1 0),a,(.fn 37 [] []),h,h])
abbrev bs :OSk:=(.cells 1 true [(.ptr 1 0),a,(.fn 38 [] []),h,h])
abbrev bp :OSk:=(.cells 1 false [m,m,m,m,m,m,m,m])
abbrev bu :OSk:=(.cells 1 true [a,a,(.leaf y),a,a,a,a,a])
abbrev bc :OSk:=(.cells 1 true [a,a,a,a,a,v,w,a,aa,a,ab,a,a,ai,ao,bd,ap,a,a,a,a,a,a,a,m])
abbrev bx :OSk:=(.cells 1 true [a,a,a,a,a,v,w,a,aa,a,ab,a,a,ai,ao, .nilp,bd,a,a,a,a,a,a,a,m])
abbrev aw :OSk:=(.cells 1 false [a,a,a,a,a,v,w,a,aa,a,ab,a,a,ai,ao,bd,ap,a,a,a,a,a,a,a,m])
abbrev bv :OSk:=(.cells 1 false [a,a,a,a,a,v,w,a,aa,a,ab,a,a,ai,ao, .nilp,bd,a,a,a,a,a,a,a,m])
abbrev ac :OSk:=(.cells 1 false [a,a,a,a,a,w,aa,a,ab,a,ai,a,a,(.full 7),bd,ap,bm,a,a,a,a,a,a,a,m])
abbrev ax :OSk:=(.cells 1 false [a,a,a,a,a,w,aa,a,ab,a,ai,a,a,(.full 7),bd, .nilp,ap,a,a,a,a,a,a,a,m])
abbrev be :OSk:=(.cells 1 true [a,a,a,a,a,(.full 1),v,a,w,a,aa,a,a,ab,(.ptr 6 0),ao,bd,a,a,a,a,a,a,a,m])
abbrev bf :OSk:=(.cells 1 true [a,a,a,a,a,(.full 1),v,a,w,a,aa,a,a,ab,(.ptr 6 0), .nilp,ao,a,a,a,a,a,a,a,m])
abbrev am :OSk:=(.cells 1 false [a,a,a,a,a,(.full 1),v,a,w,a,aa,a,a,ab,(.ptr 6 0),ao,bd,a,a,a,a,a,a,a,m])
abbrev an :OSk:=(.cells 1 false [a,a,a,a,a,(.full 1),v,a,w,a,aa,a,a,ab,(.ptr 6 0), .nilp,ao,a,a,a,a,a,a,a,m])
abbrev q :Alt:=⟨.ret,[],⟨[a],[],[]⟩⟩
abbrev p :Alt:=⟨.ret,[],⟨[h],[],[]⟩⟩
abbrev aq :Alt:=⟨.normal,[32],⟨[h],[],[]⟩⟩
abbrev bg :Alt:=⟨.ret,[4],⟨[h],[az,ac,i,b],[]⟩⟩
abbrev bh :Alt:=⟨.ret,[4],⟨[h],[ba,ac,i,b],[]⟩⟩
abbrev bi :Alt:=⟨.ret,[4],⟨[h],[bb,ax,i,b],[]⟩⟩
abbrev bj :Alt:=⟨.normal,[12,10,11],⟨[a,(.full 14),a],[az,ac,i,b],[r]⟩⟩
abbrev bk :Alt:=⟨.normal,[12,10,11],⟨[a,(.full 14),a],[ba,ac,i,b],[r]⟩⟩
abbrev bl :Alt:=⟨.normal,[12,10,11],⟨[a,(.full 12),a],[bb,ax,i,b],[r]⟩⟩
def aZ8 :FSum:=⟨188,[h,a],[],[q],by exact u2 iL⟩
theorem vR :Rt aZ8:=rq (.no) (.nil _) fun _=>by kernel_rfl
def ab2 :FSum:=⟨141,[aj],[],[q],by exact u9 gj⟩
theorem ac5 :Rt ab2:=rq (.no) (.cons vR (.nil _)) fun _=>by kernel_rfl
def bk7 :FSum:=⟨206,[ad],[],[⟨.ret,[],⟨[(.tup [(.full 0),a])],[],[l]⟩⟩],jl⟩
theorem xU :Rt bk7:=dx (ins:=[⟨219,dz aB 219 ⟨[],[⟨220,dz aB 220 ⟨[],[]⟩ .no⟩]⟩ (.n .no (.n .no (.n .no (.n .no (.n (.n .no (.n (.lp [1,3] ⟨.normal,[11,5,6],⟨[a,aa,h],[l,(.cells 1 false [ab])],[l,l]⟩⟩ [⟨(.exit 0),[6,5],⟨[h,aa],[l,(.cells 1 false [ab])],[l,l]⟩⟩] (.n .no (.n .no (.n (.n (.n .no (.jn [] [4] [⟨(.exit 0),[6,5],⟨[h,(.full 7)],[],[l]⟩⟩,⟨.normal,[5,6],⟨[(.full 7),h],[],[l]⟩⟩] (.n (.jn [] [] [⟨.normal,[16],⟨[h],[],[]⟩⟩] .no .no) .no) .no)) .no) .no)))) .no)) .no)))))⟩]) (at':= .no) (.nil _) (cj.cons (cu (.nil _) (cj.cons (cu (.nil _) (cj.nil _)) (cj.nil _))) (cj.nil _)) fun _=>by kernel_rfl
def bk2 :FSum:=⟨202,[h,a],[],[q],by exact u2 fV⟩
theorem sY :Rt bk2:=rq (.no) (.nil _) fun _=>by kernel_rfl
def bx2 :FSum:=⟨221,[a],[],[⟨.ret,[],⟨[(.agg [h,h,h,h])],[],[]⟩⟩],om⟩
theorem aE9 :Rt bx2:=rq ((.n .no (.n (.n .no (.n (.jn [] [] [⟨.normal,[4],⟨[h],[],[]⟩⟩] .no (.n .no (.jn [] [] [⟨.normal,[9],⟨[h],[],[]⟩⟩] .no .no))) .no)) .no))) (.nil _) fun _=>by kernel_rfl
def aO3 :FSum:=⟨237,[a],[],[p],tE⟩
theorem aQ0 :Rt aO3:=rq (.no) (.nil _) fun _=>by kernel_rfl
def as8 :FSum:=⟨238,[a,h],[],[p],by exact u2 ic⟩
theorem at8 :Rt as8:=rq (.no) (.nil _) fun _=>by kernel_rfl
def aO2 :FSum:=⟨230,[bo],[],[p],by exact u5 pe⟩
theorem aP9 :Rt aO2:=rq (.no) (.cons aE9 (.cons aQ0 (.cons at8 (.nil _)))) fun _=>by kernel_rfl
def w7 :FSum:=⟨229,[bo],[],[p],by exact u5 kF⟩
theorem xD :Rt w7:=rq (.no) (.cons aP9 (.nil _)) fun _=>by kernel_rfl
def pE :FSum:=⟨239,[ad,(.fn 229 [] [])],[],[q],gC⟩
theorem pN :Rt pE:=rq ((.n .no (.n (.n .no (.n (.lp [] ⟨.normal,[8],⟨[a],[],[]⟩⟩ [⟨.ret,[4],⟨[a],[],[]⟩⟩,⟨(.exit 0),[],⟨[],[],[]⟩⟩] .no) .no)) .no))) (.cons xD (.nil _)) fun _=>by kernel_rfl
def nD :FSum:=⟨231,[ad,(.fn 229 [] [])],[],[p],fT⟩
theorem nE :Rt nD:=rq (.no) (.cons pN (.nil _)) fun _=>by kernel_rfl
def mw :FSum:=⟨223,[af],[],[q],by exact u2 eJ⟩
theorem rp :Rt mw:=rq (.no) (.cons xU (.cons sY (.cons nE (.nil _)))) fun _=>by kernel_rfl
def vL :FSum:=⟨240,[(.full 0)],[l],[⟨.ret,[],⟨[(.tup [])],[l],[]⟩⟩],di⟩
theorem vT :Rt vL:=rq ((.n .no (.n (.lp [0] ⟨.normal,[2,3],⟨[a,a],[l],[]⟩⟩ [⟨(.exit 0),[],⟨[],[l],[]⟩⟩] .no) .no))) (.nil _) fun _=>by kernel_rfl
def aO1 :FSum:=⟨233,[bo],[],[⟨.ret,[],⟨[(.full 0)],[],[l]⟩⟩],by exact u5 pc⟩
theorem aP8 :Rt aO1:=rq ((.n .no (.n .no (.jn [] [] [⟨.normal,[3],⟨[(.full 1)],[],[l]⟩⟩] (.n .no (.n (.jn [] [] [⟨.normal,[3],⟨[(.full 1)],[],[l]⟩⟩,⟨(.exit 0),[3],⟨[NS],[],[]⟩⟩] (.n (.jn [] [] [⟨.normal,[],⟨[],[],[]⟩⟩,⟨(.exit 2),[],⟨[],[],[]⟩⟩,⟨(.exit 0),[],⟨[],[],[]⟩⟩] .no .no) .no) .no) .no)) .no)))) (.cons vT (.nil _)) fun _=>by kernel_rfl
def aI3 :FSum:=⟨209,[bo],[],[⟨.ret,[],⟨[(.tup [a,h])],[],[]⟩⟩],by exact u5 ip⟩
theorem yP :Rt aI3:=rq (.no) (.cons aE9 (.nil _)) fun _=>by kernel_rfl
def rh :FSum:=⟨234,[a,d],[(.cells 1 true [a,ad])],[p],by exact u3 gU⟩
theorem ru :Rt rh:=rq (.no) (.nil _) fun _=>by kernel_rfl
def tR :FSum:=⟨126,[(.leaf y),(.fn 234 [] [d])],[(.cells 1 true [a,ad])],[q],by exact u3 iS⟩
theorem tX :Rt tR:=rq ((.n .no (.n (.n .no (.n (.lp [] ⟨.normal,[8],⟨[a],[],[]⟩⟩ [⟨.ret,[4],⟨[a],[],[]⟩⟩,⟨(.exit 0),[],⟨[],[],[]⟩⟩] .no) .no)) .no))) (.cons ru (.nil _)) fun _=>by kernel_rfl
def rm :FSum:=⟨88,[(.leaf y),(.fn 234 [] [d])],[(.cells 1 true [a,ad])],[p],by exact u3 eN⟩
theorem rF :Rt rm:=rq (.no) (.cons tX (.nil _)) fun _=>by kernel_rfl
def sX :FSum:=⟨232,[bo,d],[(.cells 1 true [a,ad])],[p],by exact u7 gr⟩
theorem sZ :Rt sX:=rq ((.n .no (.n .no (.jn [] [2] [⟨.normal,[4],⟨[w],[],[l]⟩⟩] .no .no)))) (.cons aP8 (.cons yP (.cons rF (.nil _)))) fun _=>by kernel_rfl
def og :FSum:=⟨239,[ad,(.fn 232 [] [d])],[(.cells 1 true [a,ad])],[q],by exact u3 fZ⟩
theorem oh :Rt og:=rq ((.n .no (.n (.n .no (.n (.lp [] ⟨.normal,[8],⟨[a],[],[]⟩⟩ [⟨.ret,[4],⟨[a],[],[]⟩⟩,⟨(.exit 0),[],⟨[],[],[]⟩⟩] .no) .no)) .no))) (.cons sZ (.nil _)) fun _=>by kernel_rfl
def mV :FSum:=⟨231,[ad,(.fn 232 [] [d])],[(.cells 1 true [a,ad])],[p],by exact u3 fI⟩
theorem mX :Rt mV:=rq (.no) (.cons oh (.nil _)) fun _=>by kernel_rfl
def jf :FSum:=⟨224,[af],[],[q],by exact u2 eO⟩
theorem nb :Rt jf:=rq (.no) (.cons sY (.cons mX (.nil _))) fun _=>by kernel_rfl
def bx1 :FSum:=⟨235,[ad],[],[⟨.ret,[],⟨[ar],[],[]⟩⟩],uZ⟩
theorem by3 :Rt bx1:=dx (ins:=[⟨219,dz aB 219 ⟨[],[⟨241,dz aB 241 ⟨[],[]⟩ .no⟩]⟩ (.n .no (.n .no (.n .no (.n .no (.n (.n .no (.n (.lp [1] ⟨.normal,[11,5,6],⟨[a,v,h],[(.cells 1 false [a])],[l]⟩⟩ [⟨(.exit 0),[6,5],⟨[h,v],[(.cells 1 false [a])],[l]⟩⟩] (.n .no (.n .no (.n (.n (.n .no (.jn [] [2] [⟨(.exit 0),[6,5],⟨[h,aa],[],[l]⟩⟩,⟨.normal,[5,6],⟨[aa,h],[],[l]⟩⟩] (.n (.jn [] [] [⟨.normal,[16],⟨[h],[],[]⟩⟩] .no .no) .no) .no)) .no) .no)))) .no)) .no)))))⟩]) (at':= .no) (.nil _) (cj.cons (cu (.nil _) (cj.cons (cu (.nil _) (cj.nil _)) (cj.nil _))) (cj.nil _)) fun _=>by kernel_rfl
def lP :FSum:=⟨225,[af],[],[q],by exact u2 fR⟩
theorem qi :Rt lP:=rq (.no) (.cons by3 (.cons sY (.nil _))) fun _=>by kernel_rfl
def bn0 :FSum:=⟨207,[a,m],[],[⟨.ret,[],⟨[(.tup [a,h])],[],[]⟩⟩],by exact u2 pp⟩
theorem bp7 :Rt bn0:=rq (.no) (.nil _) fun _=>by kernel_rfl
def bJ2 :FSum:=⟨208,[(.leaf y)],[],[q],tG⟩
theorem bJ6 :Rt bJ2:=rq ((.n .no (.n .no (.n (.n .no (.n (.lp [] ⟨.normal,[8,3],⟨[a,a],[],[]⟩⟩ [⟨(.exit 0),[3],⟨[a],[],[]⟩⟩] .no) .no)) .no)))) (.nil _) fun _=>by kernel_rfl
def aP1 :FSum:=⟨195,[ad],[],[⟨.ret,[],⟨[(.tup [(.full 0),(.full 1),a,a])],[],[l,l]⟩⟩],iR⟩
theorem ad3 :Rt aP1:=rq ((.n .no (.n .no (.n (.dr [0,1,3,4,2,6,5,7]) (.n .no (.n .no (.n (.n .no (.n (.lp [1,2] ⟨.normal,[34,8,5],⟨[a,aa,j],[l,l],[r]⟩⟩ [⟨(.exit 0),[5,8],⟨[a,aa],[l,l],[r]⟩⟩] .no) .no)) (.jn [] [] [⟨.normal,[5],⟨[a],[],[]⟩⟩] .no .no)))))))) (.cons xU (.cons bp7 (.cons yP (.cons bJ6 (.nil _))))) fun _=>by kernel_rfl
def vK :FSum:=⟨175,[ad],[],[⟨.ret,[],⟨[ar],[],[]⟩⟩],fD⟩
theorem lI :Rt vK:=rq (.no) (.cons ad3 (.nil _)) fun _=>by kernel_rfl
def kZ :FSum:=⟨226,[af],[],[q],by exact u2 fE⟩
theorem pF :Rt kZ:=rq (.no) (.cons lI (.nil _)) fun _=>by kernel_rfl
def bk1 :FSum:=⟨189,[af,af],[],[q],by exact u4 mN⟩
theorem bn6 :Rt bk1:=dx (ins:=[⟨201,dz aB 201 ⟨[mw,jf,lP,kZ],[⟨213,dz aB 213 ⟨[],[]⟩ .no⟩]⟩ (.n .no (.n .no (.n (.n .no (.n (.n .no (.n .no (.n .no .no))) .no)) (.n (.n .no (.n (.n (.n .no (.n .no (.n (.n (.n .no (.n .no (.n (.n .no (.n .no (.n .no .no))) .no))) .no) .no))) (.n (.n .no (.n .no (.n (.n (.n .no (.n .no (.n (.n .no (.n .no (.n .no .no))) .no))) .no) .no))) (.n (.n .no (.n .no (.n (.n (.n .no (.n .no (.n (.n .no (.n .no (.n .no .no))) .no))) .no) .no))) (.n (.n .no (.n .no (.n (.n (.n .no (.n .no (.n (.n .no (.n .no (.n .no .no))) .no))) .no) .no))) (.n .no .no))))) .no)) .no))))⟩]) (at':= .no) (.nil _) (cj.cons (cu (.cons rp (.cons nb (.cons qi (.cons pF (.nil _))))) (cj.cons (cu (.nil _) (cj.nil _)) (cj.nil _))) (cj.nil _)) fun _=>by kernel_rfl
def vJ :FSum:=⟨142,[aj],[],[q],by exact u9 ew⟩
theorem vS :Rt vJ:=rq (.no) (.cons bn6 (.nil _)) fun _=>by kernel_rfl
def bk0 :FSum:=⟨190,[af,af,a,a],[],[q],by exact u6 oQ⟩
theorem bn5 :Rt bk0:=rq ((.n .no (.jn [] [] [⟨.normal,[9],⟨[h],[],[]⟩⟩] .no .no))) (.cons sY (.nil _)) fun _=>by kernel_rfl
def ab1 :FSum:=⟨143,[aj],[],[q],by exact u9 gY⟩
theorem ac4 :Rt ab1:=rq (.no) (.cons bn5 (.nil _)) fun _=>by kernel_rfl
def xw :FSum:=⟨144,[aj],[],[q],by exact u9 gA⟩
theorem xP :Rt xw:=rq ((.n .no (.n .no (.jn [] [] [⟨.normal,[3],⟨[a],[],[]⟩⟩] .no .no)))) (.cons vR (.nil _)) fun _=>by kernel_rfl
def xu :FSum:=⟨145,[aj],[],[q],by exact u9 gz⟩
theorem xO :Rt xu:=rq (.no) (.cons vR (.nil _)) fun _=>by kernel_rfl
def aN7 :FSum:=⟨98,[aj],[],[q],by exact u9 iQ⟩
theorem ac3 :Rt aN7:=rq ((.n .no (.n .no (.n (.n .no (.n (.lp [] ⟨.normal,[20],⟨[a],[],[]⟩⟩ [⟨.ret,[2],⟨[a],[],[]⟩⟩,⟨(.exit 0),[],⟨[],[],[]⟩⟩] .no) .no)) .no)))) (.cons ac5 (.cons vS (.cons ac4 (.cons xP (.cons xO (.nil _)))))) fun _=>by kernel_rfl
def bW4 :FSum:=⟨118,[aj],[],[⟨.ret,[],⟨[ar],[],[]⟩⟩],by exact u9 gL⟩
theorem ki :Rt bW4:=rq (.no) (.cons ac3 (.cons lI (.nil _))) fun _=>by kernel_rfl
def bk8 :FSum:=⟨99,[aj],[],[⟨.ret,[],⟨[(.agg [a,a,a,a,a,a,a,a,a])],[],[]⟩⟩],by exact u9 pg⟩
theorem at9 :Rt bk8:=rq ((.n .no (.n .no (.n .no (.n .no (.jn [] [] [⟨.normal,[7,8],⟨[a,a],[],[]⟩⟩] .no .no)))))) (.cons ki (.nil _)) fun _=>by kernel_rfl
def bJ0 :FSum:=⟨101,[(.agg [a,a,a,a,a,a,a,a,a]),a],[],[⟨.ret,[],⟨[(.full 0)],[],[l]⟩⟩],by exact u10 tF⟩
theorem aQ1 :Rt bJ0:=dx (ins:=[⟨146,dz aB 146 ⟨[],[]⟩ .no⟩]) (at':=(.n .no (.n .no (.n .no (.n .no (.n (.n .no (.n (.lp [1] ⟨.normal,[10,7],⟨[a,v],[(.cells 1 false [a])],[l]⟩⟩ [⟨(.exit 0),[7],⟨[v],[(.cells 1 false [a])],[l]⟩⟩] .no) .no)) .no)))))) (.nil _) (cj.cons (cu (.nil _) (cj.nil _)) (cj.nil _)) fun _=>by kernel_rfl
def bx4 :FSum:=⟨100,[(.agg [a,a,a,a,a,a,a,a,a]),a],[],[q],by exact u10 rf⟩
theorem by4 :Rt bx4:=rq (.no) (.cons aQ1 (.nil _)) fun _=>by kernel_rfl
def bx3 :FSum:=⟨53,[aj],[],[⟨.ret,[],⟨[(.tup [(.agg [a,a,a,a]),a])],[],[]⟩⟩],by exact u9 mp⟩
theorem aF0 :Rt bx3:=rq ((.n .no (.n .no (.n .no (.n .no (.jn [] [] [⟨.normal,[6],⟨[a],[],[]⟩⟩] .no (.n .no (.n .no (.n (.n .no (.n (.lp [3] ⟨.normal,[35],⟨[a],[(.cells 1 false [a,a,a,a])],[]⟩⟩ [⟨(.exit 0),[],⟨[],[(.cells 1 false [a,a,a,a])],[]⟩⟩] .no) .no)) .no))))))))) (.cons ac3 (.cons at9 (.cons by4 (.nil _)))) fun _=>by kernel_rfl
def rX :FSum:=⟨54,[.leaf cb],[],ud av,eX⟩
theorem sa :Rt rX:=ae0 (es:=5) (bytes:=40) (z:=[(.int .i64 0),(.int .i64 0),(.int .i64 0),(.int .i64 0),(.int .u64 0)]) (s:=av) (by kernel_rfl) (fun _=>by kernel_rfl) (fun _=>by kernel_rfl) (by kernel_rfl)
def iv :FSum:=⟨55,[.leaf ae],[],ud bt,dg⟩
theorem fY :Rt iv:=ae0 (es:=1) (bytes:=8) (z:=[(.int .u64 0)]) (s:=bt) (by kernel_rfl) (fun _=>by kernel_rfl) (fun _=>by kernel_rfl) (by kernel_rfl)
def ba1 :FSum:=⟨56,[aj],[],[⟨.ret,[],⟨[(.tup [(.full 0),a])],[],[l]⟩⟩],by exact u9 qL⟩
theorem bc1 :Rt ba1:=rq (.no) (.cons aF0 (.cons at9 (.cons aQ1 (.nil _)))) fun _=>by kernel_rfl
def aZ4 :FSum:=⟨29,[aj],[],[⟨.ret,[],⟨[(.tup [.nilp,a])],[],[]⟩⟩,⟨.ret,[],⟨[(.tup [d,j])],[],[(.cells 1 false [a,a,a,a,a,(.full 1),v,a,w,a,aa,a,a,ab, .nilp, .nilp, .nilp,a,j,(.cint .i64 (-1)),j,j,j,j,(.cint .u64 0)]),b,b,(.arr false av),(.arr false av),l]⟩⟩],by exact u9 iK⟩
theorem bb6 :Rt aZ4:=rq (.no) (.cons aF0 (.cons sa (.cons fY (.cons bc1 (.nil _))))) fun _=>by kernel_rfl
def aZ3 :FSum:=⟨57,[a],[],[q],vt⟩
theorem bb5 :Rt aZ3:=rq (.no) (.nil _) fun _=>by kernel_rfl
def bw7 :FSum:=⟨30,[a],[],[⟨.ret,[],⟨[(.tup [d,j])],[],[(.cells 1 false [(.full 1),j]),b]⟩⟩],qY⟩
theorem bx9 :Rt bw7:=rq (.no) (.cons bb5 (.nil _)) fun _=>by kernel_rfl
def bI9 :FSum:=⟨58,[a,a,a],[],[⟨.ret,[],⟨[(.tup [.nilp,(.cint .i64 2)])],[],[]⟩⟩,⟨.ret,[],⟨[(.tup [d,j])],[],[i]⟩⟩],by exact u3 an7⟩
theorem bJ4 :Rt bI9:=rq (.no) (.nil _) fun _=>by kernel_rfl
def bx0 :FSum:=⟨31,[a],[],[⟨.ret,[],⟨[(.tup [d,j])],[],[i]⟩⟩],uY⟩
theorem by2 :Rt bx0:=rq (.no) (.cons bJ4 (.nil _)) fun _=>by kernel_rfl
def xB :FSum:=⟨59,[d,a,a],[o],[p],by exact u5 kN⟩
theorem xT :Rt xB:=rq (.no) (.nil _) fun _=>by kernel_rfl
def al2 :FSum:=⟨60,[d,a],[i],[⟨.ret,[],⟨[(.tup [])],[i],[]⟩⟩],by exact u4 iB⟩
theorem sG :Rt al2:=rq (.no) (.nil _) fun _=>by kernel_rfl
def gb :FSum:=⟨32,[d,a],[i],[⟨.ret,[],⟨[a],[i],[]⟩⟩],by exact u4 dH⟩
theorem dY :Rt gb:=rq (.no) (.cons xT (.cons sG (.nil _))) fun _=>by kernel_rfl
def an9 :FSum:=⟨61,[d],[(.cells 1 true [(.full 1),a]),c],[q],by exact u2 oc⟩
theorem ao8 :Rt an9:=rq (.no) (.nil _) fun _=>by kernel_rfl
def ao0 :FSum:=⟨33,[d,a],[(.cells 1 false [(.full 1),a]),c],[⟨.ret,[],⟨[ar],[(.cells 1 false [(.full 1),a])],[]⟩⟩],by exact u3 eQ⟩
theorem tU :Rt ao0:=rq (.no) (.cons ao8 (.nil _)) fun _=>by kernel_rfl
def wk :FSum:=⟨34,[d],[bf,c,c,g,g,k,ag,o,c],[p],by exact u27 gc⟩
theorem ov :Rt wk:=rq (.no) (.nil _) fun _=>by kernel_rfl
def at0 :FSum:=⟨62,[(.agg [a,a,a])],[],[p],by exact u3 pq⟩
theorem au2 :Rt at0:=rq (.no) (.nil _) fun _=>by kernel_rfl
def tS :FSum:=⟨63,[(.agg [a,a,a])],[],[q],by exact u3 fy⟩
theorem oi :Rt tS:=rq (.no) (.nil _) fun _=>by kernel_rfl
def nk :FSum:=⟨64,[d,a,(.leaf ae)],[(.cells 1 true [(.full 1),a]),b],[⟨.ret,[],⟨[a],[b],[]⟩⟩],by exact u4 eg⟩
theorem fJ :Rt nk:=dx (ins:=[⟨102,dz aB 102 ⟨[],[⟨103,dz aB 103 ⟨[],[]⟩ .no⟩]⟩ .no⟩]) (at':= .no) (.nil _) (cj.cons (cu (.nil _) (cj.cons (cu (.nil _) (cj.nil _)) (cj.nil _))) (cj.nil _)) fun _=>by kernel_rfl
def bx6 :FSum:=⟨35,[d,a,a],[(.cells 1 false [(.full 1),a]),b],[⟨.ret,[],⟨[(.tup [ca,j])],[(.cells 1 false [(.full 1),a]),b],[(.cells 1 false [a,a,a,d])]⟩⟩],by exact u4 zZ⟩
theorem by6 :Rt bx6:=rq (.no) (.cons au2 (.cons oi (.cons tU (.cons fJ (.nil _))))) fun _=>by kernel_rfl
def tP :FSum:=⟨36,[d,a,(.leaf ae)],[bf,c,c,g,g,k,ag,o,b],[⟨.ret,[],⟨[(.tup [])],[b],[]⟩⟩],by exact u29 cq⟩
theorem eV :Rt tP:=rq (.no) (.cons fJ (.nil _)) fun _=>by kernel_rfl
def ri :FSum:=⟨36,[d,a,(.leaf ae)],[be,c,c,g,g,k,x,ah,o,b],[⟨.ret,[],⟨[(.tup [])],[b],[]⟩⟩],by exact u32 cn⟩
theorem eo :Rt ri:=rq (.no) (.cons fJ (.nil _)) fun _=>by kernel_rfl
def bw8 :FSum:=⟨14,[aj],[],[⟨.ret,[],⟨[(.tup [.nilp,a])],[],[]⟩⟩,⟨.ret,[],⟨[(.tup [d,j])],[],[(.cells 1 false [a,a,a,a,a,(.full 1),v,a,w,a,aa,a,a,ab,(.ptr 6 0), .nilp,ao,a,j,(.cint .i64 (-1)),j,j,j,j,(.cint .u64 0)]),b,b,(.arr false av),(.arr false av),l,(.cells 1 false [(.full 8),a]),i,b]⟩⟩,⟨.ret,[],⟨[(.tup [d,j])],[],[(.cells 1 false [a,a,a,a,a,(.full 1),v,a,w,a,aa,a,a,ab,(.ptr 6 0),ao,bd,a,j,(.cint .i64 (-1)),j,j,j,j,(.cint .u64 0)]),b,b,(.arr false av),(.arr false av),l,(.cells 1 false [(.full 9),a]),(.cells 1 false [a,a,a,(.ptr 6 0)]),i,b]⟩⟩],by exact u9 mg⟩
theorem by0 :Rt bw8:=rq ((.n .no (.n .no (.n .no (.n .no (.n .no (.n .no (.n .no (.jn [1,7,8] [] [⟨.normal,[],⟨[],[(.cells 1 false [a,a,a,a,a,v,w,a,aa,a,ab,a,a,ai,ao, .nilp,ap,a,j,(.cint .i64 (-1)),j,j,j,j,(.cint .u64 0)]),(.cells 1 false [(.full 8),a]),b],[]⟩⟩,⟨.normal,[],⟨[],[(.cells 1 false [a,a,a,a,a,v,w,a,aa,a,ab,a,a,ai,ao,bm,ap,a,j,(.cint .i64 (-1)),j,j,j,j,(.cint .u64 0)]),(.cells 1 false [(.full 8),a]),b],[(.cells 1 false [a,a,a,ao])]⟩⟩] .no .no))))))))) (.cons bb6 (.cons bx9 (.cons by2 (.cons dY (.cons tU (.cons ov (.cons by6 (.cons eV (.cons eo (.nil _)))))))))) fun _=>by kernel_rfl
def bw9 :FSum:=⟨15,[aj, .nilp],[],[⟨.ret,[],⟨[d],[],[(.cells 1 false [.nilp,a,(.fn 37 [] []),h,h])]⟩⟩],by exact u9 aE5⟩
theorem by1 :Rt bw9:=rq (.no) (.nil _) fun _=>by kernel_rfl
def aZ5 :FSum:=⟨15,[aj,d],[bf,c,c,g,g,k,ag,o,c],[⟨.ret,[],⟨[ap],[],[(.cells 1 false [d,a,(.fn 39 [] []),h,h])]⟩⟩],by exact u36 qK⟩
theorem bb7 :Rt aZ5:=rq (.no) (.nil _) fun _=>by kernel_rfl
def aZ6 :FSum:=⟨15,[aj,d],[be,c,c,g,g,k,x,ah,o,c],[⟨.ret,[],⟨[bm],[],[(.cells 1 false [d,a,(.fn 37 [] []),h,h])]⟩⟩,⟨.ret,[],⟨[bm],[],[(.cells 1 false [d,a,(.fn 38 [] []),h,h])]⟩⟩],by exact u39 lG⟩
theorem bb8 :Rt aZ6:=rq (.no) (.nil _) fun _=>by kernel_rfl
def bk3 :FSum:=⟨4,[aj],[],[⟨.ret,[],⟨[(.tup [.nilp,a])],[],[]⟩⟩,⟨.ret,[],⟨[(.tup [d,j])],[],[(.cells 1 false [(.ptr 1 0),a,(.fn 39 [] []),h,h]),(.cells 1 false [a,a,a,a,a,v,w,a,aa,a,ab,a,a,ai,ao, .nilp,bd,a,j,(.cint .i64 (-1)),j,j,j,j,(.cint .u64 0)]),b,b,(.arr false av),(.arr false av),l,(.cells 1 false [(.full 9),a]),i,b]⟩⟩,⟨.ret,[],⟨[(.tup [d,j])],[],[(.cells 1 false [(.ptr 1 0),a,(.fn 37 [] []),h,h]),(.cells 1 false [a,a,a,a,a,v,w,a,aa,a,ab,a,a,ai,ao,bd,ap,a,j,(.cint .i64 (-1)),j,j,j,j,(.cint .u64 0)]),b,b,(.arr false av),(.arr false av),l,(.cells 1 false [(.full 10),a]),(.cells 1 false [a,a,a,ao]),i,b]⟩⟩,⟨.ret,[],⟨[(.tup [d,j])],[],[(.cells 1 false [(.ptr 1 0),a,(.fn 38 [] []),h,h]),(.cells 1 false [a,a,a,a,a,v,w,a,aa,a,ab,a,a,ai,ao,bd,ap,a,j,(.cint .i64 (-1)),j,j,j,j,(.cint .u64 0)]),b,b,(.arr false av),(.arr false av),l,(.cells 1 false [(.full 10),a]),(.cells 1 false [a,a,a,ao]),i,b]⟩⟩],by exact u9 fW⟩
theorem at4 :Rt bk3:=rq (.no) (.cons by0 (.cons by1 (.cons bb7 (.cons bb8 (.nil _))))) fun _=>by kernel_rfl
def aZ9 :FSum:=⟨16,[aj,a],[],[p],by exact u10 vy⟩
theorem bb9 :Rt aZ9:=rq (.no) (.nil _) fun _=>by kernel_rfl
def bl2 :FSum:=⟨113,[ad],[],[p],mP⟩
theorem xW :Rt bl2:=rq ((.n .no (.n .no (.n (.n .no (.n (.lp [] ⟨.normal,[4,3],⟨[a,a],[],[]⟩⟩ [⟨.ret,[2],⟨[h],[],[]⟩⟩,⟨(.exit 0),[3],⟨[a],[],[]⟩⟩] (.n .no (.n (.n (.n .no (.jn [] [] [⟨.normal,[3],⟨[a],[],[]⟩⟩] .no .no)) .no) .no))) .no)) .no)))) (.nil _) fun _=>by kernel_rfl
def bl0 :FSum:=⟨114,[a],[],[⟨.ret,[],⟨[(.agg [h,h,h,h])],[],[]⟩⟩],jm⟩
theorem xV :Rt bl0:=rq ((.n .no (.jn [0] [] [⟨.ret,[],⟨[],[(.cells 1 false [h,h,h,h])],[]⟩⟩,⟨.normal,[],⟨[],[(.cells 1 false [h,h,h,h])],[]⟩⟩] .no .no))) (.nil _) fun _=>by kernel_rfl
def ba2 :FSum:=⟨193,[bo],[],[p],by exact u5 qM⟩
theorem bc2 :Rt ba2:=rq ((.n .no (.n .no (.n .no (.n .no (.n (.n .no (.n (.lp [] ⟨.normal,[5],⟨[a],[],[]⟩⟩ [⟨.ret,[2],⟨[h],[],[]⟩⟩,⟨(.exit 0),[],⟨[],[],[]⟩⟩] .no) .no)) .no)))))) (.cons xV (.nil _)) fun _=>by kernel_rfl
def bl6 :FSum:=⟨170,[af],[],[p],by exact u2 sO⟩
theorem bo4 :Rt bl6:=rq ((.n .no (.n .no (.n (.n .no (.n (.lp [] ⟨.normal,[3],⟨[a],[],[]⟩⟩ [⟨.ret,[2],⟨[h],[],[]⟩⟩,⟨(.exit 0),[],⟨[],[],[]⟩⟩] .no) .no)) .no)))) (.cons xW (.cons bc2 (.nil _))) fun _=>by kernel_rfl
def as9 :FSum:=⟨171,[af],[],[p],by exact u2 lY⟩
theorem au0 :Rt as9:=rq ((.n .no (.n .no (.n (.n .no (.n (.lp [] ⟨.normal,[3],⟨[a],[],[]⟩⟩ [⟨.ret,[2],⟨[h],[],[]⟩⟩,⟨(.exit 0),[],⟨[],[],[]⟩⟩] .no) .no)) .no)))) (.cons xV (.nil _)) fun _=>by kernel_rfl
def aO5 :FSum:=⟨194,[ad,a],[],[q],by exact u2 pi⟩
theorem aQ2 :Rt aO5:=rq ((.n .no (.n .no (.n (.n .no (.n (.lp [] ⟨.normal,[6,5],⟨[a,a],[],[]⟩⟩ [⟨(.exit 0),[5],⟨[a],[],[]⟩⟩] .no) .no)) .no)))) (.nil _) fun _=>by kernel_rfl
def bl1 :FSum:=⟨172,[ad],[],[⟨.ret,[],⟨[ar],[],[]⟩⟩],sM⟩
theorem bo0 :Rt bl1:=rq ((.n .no (.n .no (.n .no (.n (.n .no (.n (.lp [] ⟨.normal,[5,4],⟨[a,a],[],[]⟩⟩ [⟨(.exit 0),[4],⟨[a],[],[]⟩⟩] .no) .no)) .no))))) (.cons xW (.cons aQ2 (.nil _))) fun _=>by kernel_rfl
def ba3 :FSum:=⟨70,[ad],[],[⟨.ret,[],⟨[(.tup [(.full 0),a])],[],[l]⟩⟩],nC⟩
theorem bc3 :Rt ba3:=rq ((.n .no (.n .no (.n .no (.n (.n .no (.n (.lp [] ⟨.normal,[5,4],⟨[a,(.full 1)],[],[l]⟩⟩ [⟨(.exit 0),[4],⟨[(.full 1)],[],[l]⟩⟩] .no) .no)) (.n (.n .no (.n (.lp [1] ⟨.normal,[6],⟨[a],[l],[]⟩⟩ [⟨(.exit 2),[],⟨[],[l],[]⟩⟩] (.n .no (.n (.n (.n .no (.n .no (.n .no (.n (.n (.lp [] ⟨.normal,[7,8],⟨[a,a],[],[]⟩⟩ [⟨(.exit 4),[8],⟨[a],[],[]⟩⟩] .no) .no) .no)))) .no) .no))) .no)) .no)))))) (.cons xW (.nil _)) fun _=>by kernel_rfl
def az2 (n:Nat):FSum:=⟨72,[ad,(.leaf y),a,a],[],[q],fun t=>(dk n).1 t.1 t.2.1 t.2.2.1 t.2.2.2⟩
def aI4 (n:Nat):FSum:=⟨71,[ad,(.leaf y),a],[],[q],fun t=>(dk n).2 t.1 t.2.1 t.2.2⟩
theorem lm : ∀n,sH aB (az2 n)∧sH aB (aI4 n)
 |0=>⟨ar3 (fun t=>rfl),ar3 (fun t=>rfl)⟩
 |n+1=>⟨rq ((.n .no (.n .no (.n (.n .no (.n (.lp [] ⟨.normal,[10,9],⟨[a,a],[],[]⟩⟩ [⟨.ret,[8],⟨[(.cint .i64 65537)],[],[]⟩⟩,⟨(.exit 0),[9],⟨[a],[],[]⟩⟩] .no) .no)) .no)))) (.cons (lm n).2 (.cons xV (.nil _))) (fun _=>by kernel_rfl),rq (.no) (.cons (lm n).1 (.nil _)) (fun _=>by kernel_rfl)⟩
def aO7 :FSum:=⟨72,[ad,(.leaf y),a,a],[],[q],by exact u4 kc⟩
theorem aQ3 :Rt aO7:=(lm 400).1
def ba4 :FSum:=⟨71,[ad,(.leaf y),a],[],[q],by exact u3 qN⟩
theorem bc4 :Rt ba4:=(lm 400).2
def aO6 :FSum:=⟨41,[ad],[],[⟨.ret,[],⟨[ar],[],[]⟩⟩],jZ⟩
theorem ac9 :Rt aO6:=rq ((.n .no (.n .no (.n .no (.n (.n .no (.n (.lp [] ⟨.normal,[6],⟨[a],[],[]⟩⟩ [⟨.ret,[2,3],⟨[j,(.cint .i64 9)],[],[]⟩⟩,⟨(.exit 0),[],⟨[],[],[]⟩⟩] .no) .no)) .no))))) (.cons bc3 (.cons bc4 (.cons aQ3 (.nil _)))) fun _=>by kernel_rfl
def bl4 :FSum:=⟨112,[af,a],[],[q],by exact u3 pj⟩
theorem bo2 :Rt bl4:=rq (.no) (.cons bo4 (.cons au0 (.cons bo0 (.cons ac9 (.nil _))))) fun _=>by kernel_rfl
def bl5 :FSum:=⟨68,[af,af],[],[q],by exact u4 sN⟩
theorem bo3 :Rt bl5:=rq ((.n .no (.n (.n .no (.n (.lp [] ⟨.normal,[5],⟨[a],[],[]⟩⟩ [⟨.ret,[4],⟨[a],[],[]⟩⟩,⟨(.exit 0),[],⟨[],[],[]⟩⟩] .no) .no)) .no))) (.cons bo2 (.nil _)) fun _=>by kernel_rfl
def bl3 :FSum:=⟨69,[af,af,a,a],[],[q],by exact u6 mQ⟩
theorem bo1 :Rt bl3:=rq (.no) (.nil _) fun _=>by kernel_rfl
def ba8 :FSum:=⟨40,[aj],[],[q],by exact u9 qR⟩
theorem bc8 :Rt ba8:=rq (.no) (.cons bo3 (.cons bo1 (.nil _))) fun _=>by kernel_rfl
def bJ1 :FSum:=⟨17,[aj],[],[⟨.ret,[],⟨[ar],[],[]⟩⟩],by exact u9 wX⟩
theorem bJ5 :Rt bJ1:=rq (.no) (.cons bc8 (.cons ac9 (.nil _))) fun _=>by kernel_rfl
def ba0 :FSum:=⟨5,[aj],[],[p],by exact u9 ey⟩
theorem bc0 :Rt ba0:=rq (.no) (.cons bb9 (.cons bJ5 (.nil _))) fun _=>by kernel_rfl
def aI2 :FSum:=⟨18,[],[],[⟨.ret,[],⟨[(.agg [(.cint .i64 1),(.full 0),(.full 1),(.cint .i64 3),v,(.cint .i64 2),NS,(.cint .i64 3),(.cint .i64 100)])],[],[(.cells 1 false [(.cint .u64 5)]),(.cells 1 false [(.cint .u64 2)]),(.cells 5 false [(.cint .i64 1),j,j,(.cint .i64 2),(.cint .u64 0)])]⟩⟩],fun _=>yL⟩
theorem aJ4 :Rt aI2:=rq (.no) (.nil _) fun _=>by kernel_rfl
def ao3 :FSum:=⟨47,[.nilp],[],[⟨.ret,[],⟨[NS],[],[]⟩⟩],fun _=>tI⟩
theorem ap3 :Rt ao3:=rq (.no) (.nil _) fun _=>by kernel_rfl
def ak4 :FSum:=⟨25,[d],[bf,c,c,g,g,k,ag,o,c],[⟨.ret,[],⟨[(.agg [a,a,NS])],[],[]⟩⟩],by exact u27 nh⟩
theorem sD :Rt ak4:=rq (.no) (.cons ap3 (.nil _)) fun _=>by kernel_rfl
def aa8 :FSum:=⟨8,[d],[bq,bx,c,c,g,g,k,x,o,c],[⟨.ret,[],⟨[(.agg [a,a,NS])],[],[]⟩⟩],by exact u30 jk⟩
theorem mC :Rt aa8:=dx (ins:=[⟨24,dz aB 24 ⟨[],[]⟩ .no⟩]) (at':= .no) (.cons sD (.nil _)) (cj.cons (cu (.nil _) (cj.nil _)) (cj.nil _)) fun _=>by kernel_rfl
def ao1 :FSum:=⟨108,[d],[bf,c,c,g,g,k,ag,o,c],[q],by exact u27 tC⟩
theorem ao9 :Rt ao1:=rq (.no) (.nil _) fun _=>by kernel_rfl
def ak9 :FSum:=⟨66,[d],[bq,bx,c,c,g,g,k,x,o,c],[q],by exact u30 sw⟩
theorem al8 :Rt ak9:=dx (ins:=[⟨24,dz aB 24 ⟨[],[]⟩ .no⟩]) (at':= .no) (.cons ao9 (.nil _)) (cj.cons (cu (.nil _) (cj.nil _)) (cj.nil _)) fun _=>by kernel_rfl
def as4 :FSum:=⟨39,[d],[bq,bx,c,c,g,g,k,x,o,c],[⟨.ret,[],⟨[(.tup [(.agg [a,j]),h])],[],[]⟩⟩],by exact u30 oZ⟩
theorem vg :Rt as4:=rq ((.n .no (.n .no (.n (.n (.jn [] [] [⟨.normal,[7],⟨[h],[],[]⟩⟩] .no .no) .no) .no)))) (.cons mC (.cons al8 (.nil _))) fun _=>by kernel_rfl
def tO :FSum:=⟨83,[d,a,a],[(.cells 1 true [(.full 1),a]),c],[⟨.ret,[],⟨[(.tup [v,a])],[],[b]⟩⟩],by exact u4 eP⟩
theorem iU :Rt tO:=dx (ins:=[⟨102,dz aB 102 ⟨[],[⟨117,dz aB 117 ⟨[iv],[]⟩ .no⟩]⟩ .no⟩]) (at':= .no) (.nil _) (cj.cons (cu (.nil _) (cj.cons (cu (.cons fY (.nil _)) (cj.nil _)) (cj.nil _))) (cj.nil _)) fun _=>by kernel_rfl
def ld :FSum:=⟨73,[d,a],[bf,c,c,g,g,k,ag,o,c],[⟨.ret,[],⟨[(.full 9)],[],[b]⟩⟩],by exact u28 de⟩
theorem dX :Rt ld:=rq (.no) (.cons iU (.nil _)) fun _=>by kernel_rfl
def rl :FSum:=⟨176,[(.leaf (.list ae))],[],[⟨.ret,[],⟨[(.full 0)],[],[b]⟩⟩],eM⟩
theorem kB :Rt rl:=dx (ins:=[⟨196,dz aB 196 ⟨[],[]⟩ .no⟩]) (at':=(.n .no (.n .no (.n (.n .no (.n (.lp [] ⟨.normal,[11,3],⟨[a,a],[],[]⟩⟩ [⟨(.exit 0),[3],⟨[a],[],[]⟩⟩] .no) .no)) (.n .no (.n (.n .no (.n (.sz 0 (.lp [] ⟨.normal,[27,6],⟨[a,(.full 0)],[],[b]⟩⟩ [⟨(.exit 2),[6],⟨[(.full 0)],[],[b]⟩⟩] .no) (.lp [] ⟨.normal,[27,6],⟨[a,(.full 1)],[],[b]⟩⟩ [⟨(.exit 2),[6],⟨[(.full 1)],[],[b]⟩⟩] .no)) .no)) .no)))))) (.nil _) (cj.cons (cu (.nil _) (cj.nil _)) (cj.nil _)) fun _=>by kernel_rfl
def aa1 :FSum:=⟨119,[d,af,(.leaf ae),(.leaf ae)],[bf,c,c,g,g,k,ag,o,c],[⟨.ret,[],⟨[(.full 9)],[],[b]⟩⟩],by exact u31 ge⟩
theorem mA :Rt aa1:=rq (.no) (.cons dX (.cons kB (.nil _))) fun _=>by kernel_rfl
def aH7 :FSum:=⟨210,[af],[],[q],by exact u2 nL⟩
theorem aJ1 :Rt aH7:=dx (ins:=[⟨201,dz aB 201 ⟨[mw,jf,lP,kZ],[⟨213,dz aB 213 ⟨[],[]⟩ .no⟩]⟩ (.n .no (.n .no (.n (.n .no (.n (.n .no (.n .no .no)) .no)) (.n (.n .no (.n (.n (.n .no (.n .no (.n (.n (.n .no (.n .no (.n (.n .no (.n .no .no)) .no))) .no) .no))) (.n (.n .no (.n .no (.n (.n (.n .no (.n .no (.n (.n .no (.n .no .no)) .no))) .no) .no))) (.n (.n .no (.n .no (.n (.n (.n .no (.n .no (.n (.n .no (.n .no .no)) .no))) .no) .no))) (.n (.n .no (.n .no (.n (.n (.n .no (.n .no (.n (.n .no (.n .no .no)) .no))) .no) .no))) (.n .no .no))))) .no)) .no))))⟩]) (at':= .no) (.nil _) (cj.cons (cu (.cons rp (.cons nb (.cons qi (.cons pF (.nil _))))) (cj.cons (cu (.nil _) (cj.nil _)) (cj.nil _))) (cj.nil _)) fun _=>by kernel_rfl
def bm9 :FSum:=⟨211,[ad],[],[⟨.ret,[],⟨[(.tup [(.full 0),a])],[],[l]⟩⟩],w5⟩
theorem bp6 :Rt bm9:=rq (.no) (.cons ad3 (.nil _)) fun _=>by kernel_rfl
def ab0 :FSum:=⟨197,[af],[],[⟨.ret,[],⟨[(.tup [(.full 0),a])],[],[(.arr false bn)]⟩⟩],by exact u2 kA⟩
theorem rD :Rt ab0:=rq ((.n .no (.n .no (.n .no (.n .no (.n .no (.n .no (.n (.n .no (.n (.lp [] ⟨.normal,[11,10,9],⟨[a,w,aa],[],[l,(.arr false bn)]⟩⟩ [⟨(.exit 0),[9],⟨[w],[],[(.arr false bn)]⟩⟩] (.n .no (.n (.n (.n .no (.jn [] [3,4] [⟨(.exit 1),[11,10,9],⟨[a,ai,(.full 7)],[],[l,(.arr false bn)]⟩⟩,⟨.normal,[9,11,10],⟨[ai,a,(.full 7)],[],[(.arr false bn),l]⟩⟩] (.n (.jn [] [] [⟨.normal,[43],⟨[h],[],[]⟩⟩] .no .no) .no) .no)) .no) .no))) .no)) .no)))))))) (.cons aJ1 (.cons xU (.cons bp6 (.nil _)))) fun _=>by kernel_rfl
def bn3 :FSum:=⟨177,[af,(.leaf ae),(.leaf ae)],[],[⟨.ret,[],⟨[(.tup [(.full 0),a])],[],[(.arr false bn)]⟩⟩],by exact u4 w6⟩
theorem bp8 :Rt bn3:=rq (.no) (.cons rD (.cons lI (.nil _))) fun _=>by kernel_rfl
def aO0 :FSum:=⟨198,[bo,m,m],[],[⟨.ret,[],⟨[m],[],[]⟩⟩],by exact u7 mn⟩
theorem ac7 :Rt aO0:=rq (.no) (.nil _) fun _=>by kernel_rfl
def bx7 :FSum:=⟨178,[(.full 0),(.full 1),v],[(.arr true bn),b,b],[⟨.ret,[],⟨[a],[b,b],[]⟩⟩],by exact u3 vc⟩
theorem by7 :Rt bx7:=rq ((.n .no (.n .no (.n .no (.n (.lp [1,2,3] ⟨.normal,[8,10,9],⟨[a,a,a],[b,b,bp],[]⟩⟩ [⟨.ret,[6],⟨[a],[b,b,bp],[]⟩⟩] .no) .no))))) (.cons ac7 (.nil _)) fun _=>by kernel_rfl
def bb4 :FSum:=⟨120,[(.agg [a,(.full 0)]),(.full 1),v],[g,b,b],[⟨.ret,[],⟨[ar],[b,b],[]⟩⟩],by exact u4 jE⟩
theorem qT :Rt bb4:=rq (.no) (.cons bp8 (.cons by7 (.nil _))) fun _=>by kernel_rfl
def mz :FSum:=⟨80,[d],[an,c,c,g,g,k,ag,o,b],[⟨.ret,[],⟨[(.tup [(.full 9),(.full 10)])],[an,b],[b,b]⟩⟩],by exact u27 gf⟩
theorem mB :Rt mz:=rq ((.n .no (.n .no (.n (.dr [0,1,2,3,4,5,6,8,9,10,11,12,15,1013,1016,7,13,1016,14,17,16,18]) .no)))) (.cons ki (.cons dX (.cons mA (.cons qT (.cons eV (.nil _)))))) fun _=>by kernel_rfl
def aa4 :FSum:=⟨81,[d,a],[bf,c,c,g,g,k,ag,o,c],[q],by exact u28 gX⟩
theorem ac0 :Rt aa4:=rq (.no) (.nil _) fun _=>by kernel_rfl
def xi :FSum:=⟨125,[af,(.leaf ae)],[],[⟨.ret,[],⟨[(.full 0)],[],[b]⟩⟩],by exact u3 iG⟩
theorem mW :Rt xi:=rq (.no) (.cons fY (.nil _)) fun _=>by kernel_rfl
def pu :FSum:=⟨222,[bo,m,m],[],[⟨.ret,[],⟨[(.tup [m,m])],[],[]⟩⟩],by exact u7 ib⟩
theorem pL :Rt pu:=rq (.no) (.nil _) fun _=>by kernel_rfl
def ao5 :FSum:=⟨212,[(.agg [(.full 0),(.full 1),v]),bo,a],[b,b,c],[⟨.ret,[],⟨[(.tup [])],[b,b],[]⟩⟩],by exact u9 kY⟩
theorem ap5 :Rt ao5:=rq (.no) (.cons pL (.nil _)) fun _=>by kernel_rfl
def ao4 :FSum:=⟨199,[(.agg [(.full 0),(.full 1),v]),w,a],[b,b,c,(.arr true bn)],[⟨.ret,[],⟨[(.tup [])],[b,b],[]⟩⟩],by exact u5 kX⟩
theorem ap4 :Rt ao4:=rq ((.n .no (.n .no (.n .no (.n (.lp [0,1,5] ⟨.normal,[7,8,2],⟨[a,a,a],[b,b,bp],[]⟩⟩ [⟨.ret,[],⟨[],[b,b,bp],[]⟩⟩] .no) .no))))) (.cons ap5 (.nil _)) fun _=>by kernel_rfl
def bn2 :FSum:=⟨179,[(.agg [a,(.full 0)]),(.full 1),v,w],[g,b,b,c],[⟨.ret,[],⟨[a],[b,b],[]⟩⟩],by exact u5 kW⟩
theorem tb :Rt bn2:=rq (.no) (.cons rD (.cons lI (.cons ap4 (.nil _)))) fun _=>by kernel_rfl
def ak5 :FSum:=⟨124,[d,(.agg [a,(.full 1)]),v,w,aa],[(.cells 1 false [a,a,a,a,a,ab,ai,a,(.full 7),a,(.full 1),a,a,(.full 8),ap, .nilp,bm,a,a,a,a,a,a,a,m]),g,b,b,c,c,c,g,k,(.cells 1 true [(.full 11),a]),o,b],[⟨.ret,[],⟨[(.tup [])],[(.cells 1 false [a,a,a,a,a,ab,ai,a,(.full 7),a,(.full 1),a,a,(.full 8),ap, .nilp,bm,a,a,a,a,a,a,a,m]),b,b,b],[]⟩⟩],by exact u31 jO⟩
theorem al5 :Rt ak5:=rq ((.n .no (.n .no (.n .no (.n .no (.n .no (.n .no (.n (.n .no (.n (.lp [13] ⟨.normal,[36],⟨[a],[b],[]⟩⟩ [⟨(.exit 0),[],⟨[],[b],[]⟩⟩] .no) .no)) .no)))))))) (.cons tb (.cons eV (.cons dX (.nil _)))) fun _=>by kernel_rfl
def oe :FSum:=⟨123,[d,(.leaf ae)],[an,c,c,g,g,k,ag,o,b],[⟨.ret,[],⟨[(.tup [])],[an,b],[]⟩⟩],by exact u28 iP⟩
theorem tV :Rt oe:=rq ((.n .no (.n (.dr [0,1,2,3,4,5,6,8,1009,7,10,9,11]) .no))) (.cons ki (.cons mA (.cons qT (.cons eV (.cons mW (.cons al5 (.nil _))))))) fun _=>by kernel_rfl
def ga :FSum:=⟨85,[d,a],[i],[⟨.ret,[],⟨[a],[i],[]⟩⟩],by exact u4 da⟩
theorem eC :Rt ga:=rq (.no) (.cons sG (.nil _)) fun _=>by kernel_rfl
def ak8 :FSum:=⟨82,[d,a],[an,c,c,g,g,k,ag,i,b],[⟨.ret,[],⟨[(.tup [])],[an,i,b],[]⟩⟩],by exact u28 iA⟩
theorem sE :Rt ak8:=dx (ins:=[⟨121,dz aB 121 ⟨[gb,ga],[⟨122,dz aB 122 ⟨[ld,oe],[]⟩ .no⟩]⟩ .no⟩]) (at':= .no) (.cons ki (.nil _)) (cj.cons (cu (.cons dY (.cons eC (.nil _))) (cj.cons (cu (.cons dX (.cons tV (.nil _))) (cj.nil _)) (cj.nil _))) (cj.nil _)) fun _=>by kernel_rfl
def aa3 :FSum:=⟨48,[d,(.agg [a,a])],[an,c,c,g,g,k,ag,i,b],[⟨.ret,[],⟨[a],[an,i,b],[]⟩⟩],by exact u29 jj⟩
theorem ab9 :Rt aa3:=dx (ins:=[⟨84,dz aB 84 ⟨[ld,xi],[⟨124,dz aB 124 ⟨[tP,ld],[⟨179,dz aB 179 ⟨[ab0,vK],[⟨199,dz aB 199 ⟨[],[⟨212,dz aB 212 ⟨[pu],[]⟩ .no⟩]⟩ (.n .no (.n .no (.n .no (.n (.lp [10,12,17] ⟨.normal,[7,8,2],⟨[a,a,a],[b,b,bp],[]⟩⟩ [⟨.ret,[],⟨[],[b,b,bp],[]⟩⟩] .no) .no))))⟩]⟩ .no⟩]⟩ (.n .no (.n .no (.n .no (.n .no (.n .no (.n .no (.n (.n .no (.n (.sz 1019 (.lp [18] ⟨.normal,[36],⟨[a],[b],[]⟩⟩ [⟨(.exit 0),[],⟨[],[b],[]⟩⟩] .no) (.lp [16] ⟨.normal,[36],⟨[a],[b],[]⟩⟩ [⟨(.exit 0),[],⟨[],[b],[]⟩⟩] .no)) .no)) .no)))))))⟩]⟩ .no⟩]) (at':=(.n .no (.jn [] [] [⟨.normal,[5],⟨[h],[],[]⟩⟩] .no (.jn [] [] [⟨.ret,[4],⟨[a],[],[]⟩⟩,⟨.normal,[],⟨[],[],[]⟩⟩] (.n (.jn [] [] [⟨.normal,[19],⟨[h],[],[]⟩⟩] .no (.n .no (.jn [] [] [aq] .no .no))) .no) .no)))) (.cons dY (.cons mB (.cons ac0 (.cons fJ (.cons eV (.cons sE (.cons iU (.cons eC (.nil _))))))))) (cj.cons (cu (.cons dX (.cons mW (.nil _))) (cj.cons (cu (.cons eV (.cons dX (.nil _))) (cj.cons (cu (.cons rD (.cons lI (.nil _))) (cj.cons (cu (.nil _) (cj.cons (cu (.cons pL (.nil _)) (cj.nil _)) (cj.nil _))) (cj.nil _))) (cj.nil _))) (cj.nil _))) (cj.nil _)) fun _=>by kernel_rfl
def aN9 :FSum:=⟨87,[a],[],[p],tD⟩
theorem aP7 :Rt aN9:=rq (.no) (.nil _) fun _=>by kernel_rfl
def aN8 :FSum:=⟨86,[a,d],[(.cells 1 true [a])],[p],by exact u2 jS⟩
theorem ac6 :Rt aN8:=rq (.no) (.nil _) fun _=>by kernel_rfl
def rY :FSum:=⟨126,[(.leaf y),(.fn 86 [] [d])],[(.cells 1 true [a])],[q],by exact u2 iu⟩
theorem sd :Rt rY:=rq ((.n .no (.n (.n .no (.n (.lp [] ⟨.normal,[8],⟨[a],[],[]⟩⟩ [⟨.ret,[4],⟨[a],[],[]⟩⟩,⟨(.exit 0),[],⟨[],[],[]⟩⟩] .no) .no)) .no))) (.cons ac6 (.nil _)) fun _=>by kernel_rfl
def qa :FSum:=⟨88,[(.leaf y),(.fn 86 [] [d])],[(.cells 1 true [a])],[p],by exact u2 fp⟩
theorem qc :Rt qa:=rq (.no) (.cons sd (.nil _)) fun _=>by kernel_rfl
def xC :FSum:=⟨89,[.leaf y],[],ud au,gB⟩
theorem pM :Rt xC:=ae0 (es:=1) (bytes:=8) (z:=[(.int .i64 0)]) (s:=au) (by kernel_rfl) (fun _=>by kernel_rfl) (fun _=>by kernel_rfl) (by kernel_rfl)
def bk6 :FSum:=⟨49,[a,(.agg [a,a,(.leaf y)])],[],[⟨.ret,[],⟨[(.tup [.nilp,(.cint .i64 2)])],[],[]⟩⟩,⟨.ret,[],⟨[(.tup [d,j])],[],[(.cells 1 false [a,a,a,j,(.full 1)]),l]⟩⟩],by exact u4 kJ⟩
theorem ta :Rt bk6:=rq (.no) (.cons aP7 (.cons ac6 (.cons qc (.cons pM (.nil _))))) fun _=>by kernel_rfl
def as2 :FSum:=⟨127,[a],[],[p],oP⟩
theorem at1 :Rt as2:=rq (.no) (.nil _) fun _=>by kernel_rfl
def aN4 :FSum:=⟨90,[(.agg [a,a])],[],[p],by exact u2 oO⟩
theorem aP4 :Rt aN4:=rq ((.n .no (.n (.n (.jn [] [] [⟨.normal,[3],⟨[h],[],[]⟩⟩] .no .no) .no) .no))) (.cons at1 (.nil _)) fun _=>by kernel_rfl
def wu :FSum:=⟨91,[d],[(.cells 1 true [a,a,a,a,(.full 1)]),k],[⟨.ret,[],⟨[(.agg [.nilf,(.fn 128 [d] []),(.fn 129 [d] []),(.fn 130 [d] []),(.fn 131 [d] []),(.fn 132 [d] []),(.fn 133 [d] []),(.fn 134 [d] [])])],[],[]⟩⟩],by exact u5 jT⟩
theorem wz :Rt wu:=rq (.no) (.nil _) fun _=>by kernel_rfl
def uL :FSum:=⟨128,[d,a],[ay,k],[⟨.ret,[],⟨[a],[ay],[]⟩⟩],by exact u6 jc⟩
theorem uP :Rt uL:=rq (.no) (.nil _) fun _=>by kernel_rfl
def wv :FSum:=⟨129,[d,a],[(.cells 1 true [a,a,a,a,(.full 1)]),l],[⟨.ret,[],⟨[a],[l],[]⟩⟩],by exact u6 jU⟩
theorem wA :Rt wv:=rq (.no) (.nil _) fun _=>by kernel_rfl
def uM :FSum:=⟨130,[d,a],[ay,k],[⟨.ret,[],⟨[a],[ay],[]⟩⟩],by exact u6 jd⟩
theorem uQ :Rt uM:=rq (.no) (.nil _) fun _=>by kernel_rfl
def xz :FSum:=⟨131,[d,a],[(.cells 1 true [a,a,a,a,(.full 1)]),l],[⟨.ret,[],⟨[a],[l],[]⟩⟩],by exact u6 kL⟩
theorem xR :Rt xz:=rq (.no) (.nil _) fun _=>by kernel_rfl
def wt :FSum:=⟨180,[d,a],[ay,k],[⟨.ret,[],⟨[a],[ay],[]⟩⟩],by exact u6 gk⟩
theorem oD :Rt wt:=rq (.no) (.nil _) fun _=>by kernel_rfl
def xA :FSum:=⟨132,[d,a],[ay,k],[⟨.ret,[],⟨[a],[ay],[]⟩⟩],by exact u6 kM⟩
theorem xS :Rt xA:=rq (.no) (.cons oD (.nil _)) fun _=>by kernel_rfl
def xy :FSum:=⟨133,[d,a],[ay,k],[⟨.ret,[],⟨[a],[ay],[]⟩⟩],by exact u6 kK⟩
theorem xQ :Rt xy:=rq (.no) (.cons oD (.nil _)) fun _=>by kernel_rfl
def uN :FSum:=⟨134,[d,a],[ay,k],[⟨.ret,[],⟨[a],[ay],[]⟩⟩],by exact u6 je⟩
theorem uR :Rt uN:=rq (.no) (.nil _) fun _=>by kernel_rfl
def ab3 :FSum:=⟨50,[d,(.agg [a,a])],[ay,l],[⟨.ret,[],⟨[a],[ay,l],[]⟩⟩],by exact u7 gZ⟩
theorem rE :Rt ab3:=rq ((.n .no (.jn [] [] [⟨.ret,[4],⟨[(.cint .i64 2)],[],[]⟩⟩,⟨.normal,[],⟨[],[],[]⟩⟩] (.n (.n .no (.n .no (.jn [] [] [⟨.normal,[8],⟨[h],[],[]⟩⟩] .no .no))) .no) .no))) (.cons aP4 (.cons wz (.cons uP (.cons wA (.cons uQ (.cons xR (.cons xS (.cons xQ (.cons uR (.nil _)))))))))) fun _=>by kernel_rfl
def aa2 :FSum:=⟨51,[d],[bf,c,c,g,g,k,ag,o,c],[⟨.ret,[],⟨[(.agg [.nilf,(.fn 92 [d] []),(.fn 93 [d] []),(.fn 94 [d] []),(.fn 95 [d] []),(.fn 82 [d] []),(.fn 96 [d] []),(.fn 97 [d] [])])],[],[]⟩⟩],by exact u27 qZ⟩
theorem ab8 :Rt aa2:=rq (.no) (.nil _) fun _=>by kernel_rfl
def aI1 :FSum:=⟨181,[af,(.leaf ae)],[],[⟨.ret,[],⟨[(.tup [(.full 0),(.full 1),a])],[],[(.arr false bn),b]⟩⟩],by exact u3 rS⟩
theorem aJ3 :Rt aI1:=rq (.no) (.cons rD (.nil _)) fun _=>by kernel_rfl
def aI0 :FSum:=⟨183,[a,bo],[],[⟨.ret,[],⟨[(.tup [])],[],[]⟩⟩],by exact u6 rR⟩
theorem aJ2 :Rt aI0:=rq (.no) (.nil _) fun _=>by kernel_rfl
def aN6 :FSum:=⟨182,[(.full 0),(.full 1),a,(.fn 183 [] [])],[(.arr true bn),b],[⟨.ret,[],⟨[(.tup [])],[b],[]⟩⟩],by exact u3 pa⟩
theorem aP6 :Rt aN6:=rq ((.n .no (.n .no (.n (.lp [1,2] ⟨.normal,[9,11,10],⟨[a,a,a],[b,bp],[]⟩⟩ [⟨.ret,[],⟨[],[b,bp],[]⟩⟩] .no) .no)))) (.cons ac7 (.cons aJ2 (.nil _))) fun _=>by kernel_rfl
def aZ7 :FSum:=⟨135,[af,(.leaf ae)],[],[⟨.ret,[],⟨[(.tup [(.full 0),a])],[],[b]⟩⟩],by exact u3 lH⟩
theorem am8 :Rt aZ7:=rq (.no) (.cons aJ3 (.cons aP6 (.nil _))) fun _=>by kernel_rfl
def w8 :FSum:=⟨92,[d,a],[an,c,c,g,g,k,ag,o,b],[⟨.ret,[],⟨[(.tup [])],[an,b],[]⟩⟩],by exact u28 oS⟩
theorem xE :Rt w8:=rq ((.n .no (.n (.lp [0,8] ⟨.normal,[8],⟨[a],[an,b],[]⟩⟩ [⟨(.exit 0),[],⟨[],[an,b],[]⟩⟩] (.n .no (.n .no (.n (.n (.n .no (.n (.dr [0,1,2,3,4,5,6,7,8,9,10,11,13,14,15,16,17,18,19,1020,12,20,21,22,23,24,25,26,27]) .no)) .no) .no)))) .no))) (.cons dX (.cons mA (.cons am8 (.cons eV (.nil _))))) fun _=>by kernel_rfl
def xx :FSum:=⟨52,[d],[(.cells 1 true [a,a,a,a,(.full 1)]),k],[⟨.ret,[],⟨[(.agg [a,a,v])],[],[l]⟩⟩],by exact u5 db⟩
theorem pK :Rt xx:=rq (.no) (.cons pM (.nil _)) fun _=>by kernel_rfl
def al3 :FSum:=⟨136,[.nilp,a,a,(.leaf ae)],[],[⟨.ret,[],⟨[(.cint .i64 1)],[],[]⟩⟩],by exact u3 sA⟩
theorem am2 :Rt al3:=dx (ins:=[⟨184,dz aB 184 ⟨[],[]⟩ .no⟩]) (at':= .no) (.nil _) (cj.cons (cu (.nil _) (cj.nil _)) (cj.nil _)) fun _=>by kernel_rfl
def aa5 :FSum:=⟨93,[d,a],[bf,c,c,g,g,k,ag,i,c],[⟨.ret,[],⟨[(.tup [])],[i],[]⟩⟩],by exact u28 rb⟩
theorem ac1 :Rt aa5:=rq (.no) (.cons dY (.cons dX (.cons am2 (.nil _)))) fun _=>by kernel_rfl
def zw :FSum:=⟨137,[.nilp,a],[],[⟨.ret,[],⟨[(.tup [j,NS,(.cint .i64 1)])],[],[]⟩⟩],qh⟩
theorem zT :Rt zw:=dx (ins:=[⟨184,dz aB 184 ⟨[],[]⟩ .no⟩]) (at':= .no) (.nil _) (cj.cons (cu (.nil _) (cj.nil _)) (cj.nil _)) fun _=>by kernel_rfl
def xe :FSum:=⟨94,[d,a],[bf,c,c,g,g,k,ag,o,b],[⟨.ret,[],⟨[(.tup [])],[b],[]⟩⟩],by exact u28 oV⟩
theorem xH :Rt xe:=rq (.no) (.cons zT (.cons eV (.nil _))) fun _=>by kernel_rfl
def ao2 :FSum:=⟨138,[.nilp,a],[],[⟨.ret,[],⟨[(.cint .i64 1)],[],[]⟩⟩],tH⟩
theorem ap0 :Rt ao2:=dx (ins:=[⟨184,dz aB 184 ⟨[],[]⟩ .no⟩]) (at':= .no) (.nil _) (cj.cons (cu (.nil _) (cj.nil _)) (cj.nil _)) fun _=>by kernel_rfl
def ak7 :FSum:=⟨95,[d,a],[bf,c,c,g,g,k,ag,i,c],[⟨.ret,[],⟨[(.tup [])],[i],[]⟩⟩],by exact u28 sv⟩
theorem al7 :Rt ak7:=rq (.no) (.cons ap0 (.cons eC (.nil _))) fun _=>by kernel_rfl
def ze :FSum:=⟨124,[d,(.agg [a,(.full 1)]),v,w,aa],[(.cells 1 false [a,a,a,a,a,ab,ai,a,(.full 1),a,(.full 7),a,a,(.full 8),ap, .nilp,bm,a,a,a,a,a,a,a,m]),g,b,b,c,c,c,g,k,(.cells 1 true [(.full 11),a]),o,b],[⟨.ret,[],⟨[(.tup [])],[(.cells 1 false [a,a,a,a,a,ab,ai,a,(.full 1),a,(.full 7),a,a,(.full 8),ap, .nilp,bm,a,a,a,a,a,a,a,m]),b,b,b],[]⟩⟩],by exact u31 qe⟩
theorem zK :Rt ze:=rq ((.n .no (.n .no (.n .no (.n .no (.n .no (.n .no (.n (.n .no (.n (.lp [13] ⟨.normal,[36],⟨[a],[b],[]⟩⟩ [⟨(.exit 0),[],⟨[],[b],[]⟩⟩] .no) .no)) .no)))))))) (.cons tb (.cons eV (.cons dX (.nil _)))) fun _=>by kernel_rfl
def np :FSum:=⟨84,[d,(.full 1),v],[ax,b,c,c,c,g,g,k,ak,o,b],[⟨.ret,[],⟨[(.tup [])],[ax,b,b],[]⟩⟩],by exact u29 ni⟩
theorem sF :Rt np:=rq (.no) (.cons dX (.cons mW (.cons zK (.nil _)))) fun _=>by kernel_rfl
def ak6 :FSum:=⟨96,[d,a],[an,c,c,g,g,k,ag,i,b],[⟨.ret,[],⟨[(.tup [])],[an,i,b],[]⟩⟩],by exact u28 su⟩
theorem al6 :Rt ak6:=dx (ins:=[⟨121,dz aB 121 ⟨[gb,ga],[⟨139,dz aB 139 ⟨[mz,oe,np],[]⟩ .no⟩]⟩ .no⟩]) (at':= .no) (.cons ki (.nil _)) (cj.cons (cu (.cons dY (.cons eC (.nil _))) (cj.cons (cu (.cons mB (.cons tV (.cons sF (.nil _)))) (cj.nil _)) (cj.nil _))) (cj.nil _)) fun _=>by kernel_rfl
def xf :FSum:=⟨97,[d,a],[an,c,c,g,g,k,ag,i,b],[⟨.ret,[],⟨[(.tup [])],[an,i,b],[]⟩⟩],by exact u28 oW⟩
theorem xI :Rt xf:=dx (ins:=[⟨121,dz aB 121 ⟨[gb,ga],[⟨140,dz aB 140 ⟨[mz,np],[]⟩ .no⟩]⟩ .no⟩]) (at':= .no) (.cons ki (.nil _)) (cj.cons (cu (.cons dY (.cons eC (.nil _))) (cj.cons (cu (.cons mB (.cons sF (.nil _))) (cj.nil _)) (cj.nil _))) (cj.nil _)) fun _=>by kernel_rfl
def as3 :FSum:=⟨26,[d,(.agg [a,a])],[an,c,c,g,g,k,ag,i,b],[⟨.ret,[],⟨[a],[an,i,b],[]⟩⟩],by exact u29 uW⟩
theorem at3 :Rt as3:=rq (.no) (.cons ov (.cons ab9 (.cons sD (.cons ta (.cons rE (.cons ab8 (.cons xE (.cons pK (.cons ac1 (.cons xH (.cons al7 (.cons sE (.cons al6 (.cons xI (.nil _))))))))))))))) fun _=>by kernel_rfl
def aa9 :FSum:=⟨9,[d],[bq,bv,c,c,g,g,k,x,i,b],[⟨.ret,[],⟨[(.tup [(.agg [a,j]),h,a])],[bv,i,b],[]⟩⟩],by exact u30 mj⟩
theorem rC :Rt aa9:=rq (.no) (.cons vg (.cons at3 (.nil _))) fun _=>by kernel_rfl
def al1 :FSum:=⟨19,[d],[bq,bv,c,c,g,g,k,x,i,b],[⟨.ret,[],⟨[ar],[bv,i,b],[]⟩⟩],by exact u30 sy⟩
theorem al9 :Rt al1:=rq ((.n .no (.n .no (.n (.lp [1,8,9] ⟨.normal,[4],⟨[a],[bv,i,b],[]⟩⟩ [⟨.ret,[2,3],⟨[a,a],[bv,i,b],[]⟩⟩] .no) .no)))) (.cons rC (.nil _)) fun _=>by kernel_rfl
def zc :FSum:=⟨42,[d],[bf,c,c,g,g,k,ag,o,c],[⟨.ret,[],⟨[(.tup [(.agg [m,(.full 9),(.full 10)]),a])],[],[b,b]⟩⟩],by exact u27 qd⟩
theorem zy :Rt zc:=rq (.no) (.cons dX (.nil _)) fun _=>by kernel_rfl
def xn :FSum:=⟨20,[d],[bq,bx,c,c,g,g,k,x,o,c],[⟨.ret,[],⟨[(.tup [(.agg [m,(.full 10),(.full 11)]),a])],[],[b,b]⟩⟩],by exact u30 oY⟩
theorem xN :Rt xn:=dx (ins:=[⟨24,dz aB 24 ⟨[],[]⟩ .no⟩]) (at':= .no) (.cons zy (.nil _)) (cj.cons (cu (.nil _) (cj.nil _)) (cj.nil _)) fun _=>by kernel_rfl
def zt :FSum:=⟨27,[d],[bq,bx,c,c,g,g,k,x,o,c],[p],by exact u30 lN⟩
theorem qo :Rt zt:=rq (.no) (.cons vg (.nil _)) fun _=>by kernel_rfl
def aa6 :FSum:=⟨13,[d],[bq,bx,c,c,g,g,k,x,o,c],[p],by exact u30 mh⟩
theorem rB :Rt aa6:=rq (.no) (.cons qo (.cons mC (.nil _))) fun _=>by kernel_rfl
def bl7 :FSum:=⟨21,[(.agg [m,(.leaf ae),(.leaf ae)]),(.agg [m,(.leaf ae),(.leaf ae)])],[],[p],by exact u6 sP⟩
theorem bo5 :Rt bl7:=rq ((.n .no (.n .no (.n (.n .no (.n (.lp [] ⟨.normal,[5],⟨[a],[],[]⟩⟩ [⟨.ret,[4],⟨[h],[],[]⟩⟩,⟨(.exit 0),[],⟨[],[],[]⟩⟩] .no) .no)) (.n (.n .no (.n (.lp [] ⟨.normal,[6],⟨[a],[],[]⟩⟩ [⟨.ret,[4],⟨[h],[],[]⟩⟩,⟨(.exit 2),[],⟨[],[],[]⟩⟩] .no) .no)) .no))))) (.nil _) fun _=>by kernel_rfl
def aa0 :FSum:=⟨108,[d],[be,c,c,g,g,k,x,ah,o,c],[q],by exact u30 gV⟩
theorem rz :Rt aa0:=rq (.no) (.nil _) fun _=>by kernel_rfl
def zl :FSum:=⟨66,[d],[br,bc,c,c,g,g,k,ak,al,o,c],[q],by exact u33 lK⟩
theorem zP :Rt zl:=dx (ins:=[⟨24,dz aB 24 ⟨[],[]⟩ .no⟩]) (at':= .no) (.cons rz (.nil _)) (cj.cons (cu (.nil _) (cj.nil _)) (cj.nil _)) fun _=>by kernel_rfl
def lg :FSum:=⟨79,[(.agg [a,a,a]),a],[],[q],by exact u4 eA⟩
theorem lq :Rt lg:=rq (.no) (.cons oi (.nil _)) fun _=>by kernel_rfl
def lZ :FSum:=⟨78,[d,a],[(.cells 1 true [(.full 1),a]),c],[⟨.ret,[],⟨[(.tup [m,a])],[],[]⟩⟩],by exact u3 fM⟩
theorem md :Rt lZ:=dx (ins:=[⟨102,dz aB 102 ⟨[],[⟨117,dz aB 117 ⟨[iv],[]⟩ .no⟩]⟩ .no⟩]) (at':= .no) (.nil _) (cj.cons (cu (.nil _) (cj.cons (cu (.cons fY (.nil _)) (cj.nil _)) (cj.nil _))) (cj.nil _)) fun _=>by kernel_rfl
def ab6 :FSum:=⟨47,[d],[(.cells 1 true [a,a,a,(.ptr 1 0)]),(.cells 1 true [v,a]),c],[⟨.ret,[],⟨[w],[],[l]⟩⟩],by exact u5 ju⟩
theorem ad5 :Rt ab6:=rq ((.n .no (.n .no (.n .no (.n (.n .no (.n (.lp [] ⟨.normal,[14,3],⟨[a,w],[],[l]⟩⟩ [⟨(.exit 0),[3],⟨[w],[],[l]⟩⟩] .no) .no)) .no))))) (.cons lq (.cons md (.nil _))) fun _=>by kernel_rfl
def zd :FSum:=⟨25,[d],[be,c,c,g,g,k,x,ah,o,c],[⟨.ret,[],⟨[(.agg [a,a,(.full 10)])],[],[l]⟩⟩],by exact u30 eY⟩
theorem lR :Rt zd:=rq (.no) (.cons ad5 (.nil _)) fun _=>by kernel_rfl
def xo :FSum:=⟨8,[d],[br,bc,c,c,g,g,k,ak,al,o,c],[⟨.ret,[],⟨[(.agg [a,a,(.full 11)])],[],[l]⟩⟩],by exact u33 eR⟩
theorem lj :Rt xo:=dx (ins:=[⟨24,dz aB 24 ⟨[],[]⟩ .no⟩]) (at':= .no) (.cons lR (.nil _)) (cj.cons (cu (.nil _) (cj.nil _)) (cj.nil _)) fun _=>by kernel_rfl
def am6 :FSum:=⟨104,[a,(.agg [a,a,(.leaf y)])],[],[p],by exact u4 vA⟩
theorem bd0 :Rt am6:=rq (.no) (.cons ta (.nil _)) fun _=>by kernel_rfl
def vd :FSum:=⟨105,[],[],[⟨.ret,[],⟨[(.tup [(.agg [j,j]),h])],[],[]⟩⟩],fun _=>ig⟩
theorem vh :Rt vd:=rq (.no) (.nil _) fun _=>by kernel_rfl
def ab4 :FSum:=⟨106,[a,(.agg [a,a,(.leaf y)])],[],[⟨.ret,[],⟨[bz],[],[]⟩⟩],by exact u4 po⟩
theorem aQ5 :Rt ab4:=rq ((.n .no (.n .no (.jn [0,1,2] [] [⟨.normal,[],⟨[],[(.cells 1 false [a,a,(.leaf y)]),(.cells 1 false [j,j,NS,j,j,j,j,j]),(.cells 1 false [a,a,(.leaf y),a,(.cint .i64 (-1)),j,j,(.cint .i64 (-1))])],[]⟩⟩] .no (.n (.n .no (.n (.lp [0,1,2] ⟨.normal,[20],⟨[a],[(.cells 1 false [a,a,(.leaf y)]),(.cells 1 false [j,j,NS,j,j,j,j,j]),(.cells 1 false [a,a,(.leaf y),a,a,a,a,a])],[]⟩⟩ [⟨(.exit 0),[],⟨[],[(.cells 1 false [a,a,(.leaf y)]),(.cells 1 false [j,j,NS,j,j,j,j,j]),(.cells 1 false [a,a,(.leaf y),a,a,a,a,a])],[]⟩⟩] .no) .no)) .no))))) (.nil _) fun _=>by kernel_rfl
def am7 :FSum:=⟨149,[a,a],[],[⟨.ret,[],⟨[(.fn 191 [] [d,(.ptr 1 0)])],[],[(.cells 1 false [a]),(.cells 1 false [a])]⟩⟩],by exact u2 jC⟩
theorem bd1 :Rt am7:=rq (.no) (.nil _) fun _=>by kernel_rfl
def zu :FSum:=⟨148,[bz],[],[p],by exact u8 gK⟩
theorem lS :Rt zu:=rq (.no) (.nil _) fun _=>by kernel_rfl
def pv :FSum:=⟨147,[d],[bu],[p],by exact u8 kO⟩
theorem xX :Rt pv:=rq (.no) (.cons lS (.nil _)) fun _=>by kernel_rfl
def yM :FSum:=⟨191,[d,(.ptr 1 0)],[(.cells 1 true [a]),(.cells 1 true [a])],[⟨.ret,[],⟨[(.tup [(.agg [a,a]),h])],[],[]⟩⟩],by exact u2 iq⟩
theorem aJ7 :Rt yM:=rq (.no) (.nil _) fun _=>by kernel_rfl
def px :FSum:=⟨150,[d],[bu],[p],by exact u8 kP⟩
theorem xY :Rt px:=rq (.no) (.nil _) fun _=>by kernel_rfl
def py :FSum:=⟨151,[d,(.ptr 1 0)],[bu,(.cells 1 true [a])],[p],by exact u9 kQ⟩
theorem xZ :Rt py:=rq (.no) (.cons lS (.nil _)) fun _=>by kernel_rfl
def pz :FSum:=⟨152,[d],[bu],[p],by exact u8 kR⟩
theorem ya :Rt pz:=rq (.no) (.nil _) fun _=>by kernel_rfl
def sB :FSum:=⟨153,[bz],[],[⟨.ret,[],⟨[(.tup [(.agg [a,j]),h])],[],[]⟩⟩],by exact u8 nj⟩
theorem am1 :Rt sB:=rq (.no) (.cons lS (.nil _)) fun _=>by kernel_rfl
def pA :FSum:=⟨154,[d],[bu],[p],by exact u8 kS⟩
theorem yd :Rt pA:=rq (.no) (.nil _) fun _=>by kernel_rfl
def rj :FSum:=⟨155,[bz],[],[⟨.ret,[],⟨[(.tup [(.agg [a,j]),h])],[],[]⟩⟩],by exact u8 mr⟩
theorem ad1 :Rt rj:=rq (.no) (.cons vh (.nil _)) fun _=>by kernel_rfl
def pB :FSum:=⟨156,[d],[bu],[p],by exact u8 kT⟩
theorem ye :Rt pB:=rq (.no) (.nil _) fun _=>by kernel_rfl
def pC :FSum:=⟨157,[d],[bu],[p],by exact u8 kU⟩
theorem yf :Rt pC:=rq (.no) (.nil _) fun _=>by kernel_rfl
def pD :FSum:=⟨158,[d],[bu],[p],by exact u8 kV⟩
theorem yg :Rt pD:=rq (.no) (.nil _) fun _=>by kernel_rfl
def ww :FSum:=⟨159,[],[],[p],fun _=>qt⟩
theorem az8 :Rt ww:=rq (.no) (.nil _) fun _=>by kernel_rfl
def bm8 :FSum:=⟨214,[a],[],[p],wZ⟩
theorem bp5 :Rt bm8:=rq (.no) (.nil _) fun _=>by kernel_rfl
def as7 :FSum:=⟨227,[m,m],[],[⟨.ret,[],⟨[(.tup [m,m])],[],[]⟩⟩],by exact u2 lX⟩
theorem at7 :Rt as7:=rq (.no) (.nil _) fun _=>by kernel_rfl
def as6 :FSum:=⟨242,[m],[],[q],uX⟩
theorem at6 :Rt as6:=rq ((.n .no (.jn [] [] [⟨.normal,[0,2],⟨[m,a],[],[]⟩⟩] .no (.jn [] [] [⟨.normal,[0,2],⟨[m,a],[],[]⟩⟩] .no .no)))) (.nil _) fun _=>by kernel_rfl
def tQ :FSum:=⟨236,[m],[],[q],mm⟩
theorem tW :Rt tQ:=rq (.no) (.cons at6 (.nil _)) fun _=>by kernel_rfl
def as5 :FSum:=⟨228,[m,m,m],[],[⟨.ret,[],⟨[(.tup [m,m])],[],[]⟩⟩],by exact u3 lW⟩
theorem at5 :Rt as5:=rq ((.n .no (.n .no (.n .no (.n .no (.n .no (.n .no (.n .no (.n .no (.n .no (.n .no (.n .no (.n .no (.n .no (.n .no (.n (.n (.lp [] ⟨.normal,[15,16],⟨[m,m],[],[]⟩⟩ [⟨(.exit 0),[15],⟨[m],[],[]⟩⟩] .no) .no) (.n .no (.n .no (.n .no (.n (.n (.lp [] ⟨.normal,[18,16],⟨[m,m],[],[]⟩⟩ [⟨(.exit 2),[18],⟨[m],[],[]⟩⟩] .no) .no) .no)))))))))))))))))))) (.cons tW (.nil _)) fun _=>by kernel_rfl
def aN5 :FSum:=⟨218,[a,a,a],[],[q],by exact u3 oR⟩
theorem aP5 :Rt aN5:=rq (.no) (.cons at7 (.cons at5 (.nil _))) fun _=>by kernel_rfl
def aH8 :FSum:=⟨205,[a,a],[],[q],by exact u2 jh⟩
theorem yN :Rt aH8:=rq ((.n .no (.n .no (.n .no (.n .no (.n (.n .no (.n (.lp [] ⟨.normal,[6,5],⟨[a,a],[],[]⟩⟩ [⟨(.exit 0),[5],⟨[a],[],[]⟩⟩] .no) .no)) .no)))))) (.cons aP5 (.nil _)) fun _=>by kernel_rfl
def aP0 :FSum:=⟨217,[a,a],[],[q],by exact u2 pn⟩
theorem aQ4 :Rt aP0:=rq (.no) (.cons yN (.nil _)) fun _=>by kernel_rfl
def ba9 :FSum:=⟨216,[a,d,(.ptr 1 0)],[(.cells 1 true [a]),(.cells 1 true [a])],[p],by exact u3 vz⟩
theorem bc9 :Rt ba9:=rq (.no) (.cons aQ4 (.nil _)) fun _=>by kernel_rfl
def bm7 :FSum:=⟨215,[a,(.fn 216 [] [d,(.ptr 1 0)])],[(.cells 1 true [a]),(.cells 1 true [a])],[q],by exact u3 wY⟩
theorem bp4 :Rt bm7:=rq ((.n .no (.n .no (.n (.n (.lp [] ⟨.normal,[5,6],⟨[a,a],[],[]⟩⟩ [⟨(.exit 0),[5],⟨[a],[],[]⟩⟩] .no) .no) .no)))) (.cons bc9 (.nil _)) fun _=>by kernel_rfl
def bx5 :FSum:=⟨203,[a,a],[],[⟨.ret,[],⟨[ar],[],[]⟩⟩],by exact u2 vb⟩
theorem by5 :Rt bx5:=rq (.no) (.cons bp5 (.cons bp4 (.nil _))) fun _=>by kernel_rfl
def aI6 :FSum:=⟨204,[(.leaf y)],[],[q],nU⟩
theorem aJ6 :Rt aI6:=rq ((.n .no (.n .no (.n (.n .no (.n (.lp [] ⟨.normal,[11,3],⟨[a,a],[],[]⟩⟩ [⟨(.exit 0),[3],⟨[a],[],[]⟩⟩] .no) .no)) .no)))) (.nil _) fun _=>by kernel_rfl
def bm6 :FSum:=⟨192,[a,a],[],[⟨.ret,[],⟨[ar],[],[]⟩⟩],by exact u2 sV⟩
theorem bp3 :Rt bm6:=rq (.no) (.cons by5 (.cons yN (.cons aJ6 (.nil _)))) fun _=>by kernel_rfl
def rk :FSum:=⟨160,[bz],[],[⟨.ret,[],⟨[(.tup [(.agg [(.cint .i64 1),a]),h])],[],[]⟩⟩],by exact u8 mt⟩
theorem ad2 :Rt rk:=rq (.no) (.cons bp3 (.nil _)) fun _=>by kernel_rfl
def az1 :FSum:=⟨37,[d],[br,bc,c,c,g,g,k,ak,al,o,c],[⟨.ret,[],⟨[(.tup [(.agg [a,a]),h])],[],[]⟩⟩],by exact u33 jR⟩
theorem wy :Rt az1:=dx (ins:=[⟨65,dz aB 65 ⟨[am6,vd,ab4,pv,yM,px,py,pz,sB,pA,rj,pB,pC,pD,ww,rk],[⟨107,dz aB 107 ⟨[am7],[]⟩ .no⟩]⟩ (.n .no (.n .no (.n (.n .no (.n (.n .no (.n .no (.n .no (.n .no (.n .no (.n .no (.n .no (.n .no (.n .no (.n .no .no)))))))))) .no)) .no)))⟩]) (at':= .no) (.cons zP (.cons lj (.nil _))) (cj.cons (cu (.cons bd0 (.cons vh (.cons aQ5 (.cons xX (.cons aJ7 (.cons xY (.cons xZ (.cons ya (.cons am1 (.cons yd (.cons ad1 (.cons ye (.cons yf (.cons yg (.cons az8 (.cons ad2 (.nil _))))))))))))))))) (cj.cons (cu (.cons bd1 (.nil _)) (cj.nil _)) (cj.nil _))) (cj.nil _)) fun _=>by kernel_rfl
def uK :FSum:=⟨34,[d],[be,c,c,g,g,k,x,ah,o,c],[p],by exact u30 jb⟩
theorem uO :Rt uK:=rq (.no) (.nil _) fun _=>by kernel_rfl
def jv :FSum:=⟨73,[d,a],[be,c,c,g,g,k,x,ah,o,c],[⟨.ret,[],⟨[(.full 10)],[],[b]⟩⟩],by exact u31 cz⟩
theorem dO :Rt jv:=rq (.no) (.cons iU (.nil _)) fun _=>by kernel_rfl
def w9 :FSum:=⟨119,[d,af,(.leaf ae),(.leaf ae)],[be,c,c,g,g,k,x,ah,o,c],[⟨.ret,[],⟨[(.full 10)],[],[b]⟩⟩],by exact u34 fF⟩
theorem lh :Rt w9:=rq (.no) (.cons dO (.cons kB (.nil _))) fun _=>by kernel_rfl
def lf :FSum:=⟨80,[d],[am,c,c,g,g,k,x,ah,o,b],[⟨.ret,[],⟨[(.tup [(.full 10),(.full 11)])],[am,b],[b,b]⟩⟩],by exact u30 fG⟩
theorem li :Rt lf:=rq ((.n .no (.n .no (.n (.dr [0,1,2,3,4,5,6,8,9,10,11,12,15,1013,1016,7,13,1016,14,17,16,18]) .no)))) (.cons ki (.cons dO (.cons lh (.cons qT (.cons eo (.nil _)))))) fun _=>by kernel_rfl
def xg :FSum:=⟨81,[d,a],[be,c,c,g,g,k,x,ah,o,c],[q],by exact u31 kI⟩
theorem xJ :Rt xg:=rq (.no) (.nil _) fun _=>by kernel_rfl
def zf :FSum:=⟨124,[d,(.agg [a,(.full 1)]),v,w,aa],[(.cells 1 false [a,a,a,a,a,ab,ai,a,(.full 7),a,(.full 1),a,a,(.full 8),ap,bm,(.ptr 11 0),a,a,a,a,a,a,a,m]),g,b,b,c,c,c,g,k,(.cells 1 true [(.full 12),a]),(.cells 1 true [a,a,a,ap]),o,b],[⟨.ret,[],⟨[(.tup [])],[(.cells 1 false [a,a,a,a,a,ab,ai,a,(.full 7),a,(.full 1),a,a,(.full 8),ap,bm,(.ptr 11 0),a,a,a,a,a,a,a,m]),b,b,b],[]⟩⟩],by exact u34 i4⟩
theorem zL :Rt zf:=rq ((.n .no (.n .no (.n .no (.n .no (.n .no (.n .no (.n (.n .no (.n (.lp [14] ⟨.normal,[36],⟨[a],[b],[]⟩⟩ [⟨(.exit 0),[],⟨[],[b],[]⟩⟩] .no) .no)) .no)))))))) (.cons tb (.cons eo (.cons dO (.nil _)))) fun _=>by kernel_rfl
def my :FSum:=⟨123,[d,(.leaf ae)],[am,c,c,g,g,k,x,ah,o,b],[⟨.ret,[],⟨[(.tup [])],[am,b],[]⟩⟩],by exact u31 gW⟩
theorem rA :Rt my:=rq ((.n .no (.n (.dr [0,1,2,3,4,5,6,8,1009,7,10,9,11]) .no))) (.cons ki (.cons lh (.cons qT (.cons eo (.cons mW (.cons zL (.nil _))))))) fun _=>by kernel_rfl
def zk :FSum:=⟨82,[d,a],[am,c,c,g,g,k,x,ah,i,b],[⟨.ret,[],⟨[(.tup [])],[am,i,b],[]⟩⟩],by exact u31 gI⟩
theorem qk :Rt zk:=dx (ins:=[⟨121,dz aB 121 ⟨[gb,ga],[⟨122,dz aB 122 ⟨[jv,my],[]⟩ .no⟩]⟩ .no⟩]) (at':= .no) (.cons ki (.nil _)) (cj.cons (cu (.cons dY (.cons eC (.nil _))) (cj.cons (cu (.cons dO (.cons rA (.nil _))) (cj.nil _)) (cj.nil _))) (cj.nil _)) fun _=>by kernel_rfl
def xd :FSum:=⟨48,[d,(.agg [a,a])],[am,c,c,g,g,k,x,ah,i,b],[⟨.ret,[],⟨[a],[am,i,b],[]⟩⟩],by exact u32 oU⟩
theorem xG :Rt xd:=dx (ins:=[⟨84,dz aB 84 ⟨[jv,xi],[⟨124,dz aB 124 ⟨[ri,jv],[⟨179,dz aB 179 ⟨[ab0,vK],[⟨199,dz aB 199 ⟨[],[⟨212,dz aB 212 ⟨[pu],[]⟩ .no⟩]⟩ (.n .no (.n .no (.n .no (.n (.lp [11,13,18] ⟨.normal,[7,8,2],⟨[a,a,a],[b,b,bp],[]⟩⟩ [⟨.ret,[],⟨[],[b,b,bp],[]⟩⟩] .no) .no))))⟩]⟩ .no⟩]⟩ (.n .no (.n .no (.n .no (.n .no (.n .no (.n .no (.n (.n .no (.n (.sz 20 (.lp [19] ⟨.normal,[36],⟨[a],[b],[]⟩⟩ [⟨(.exit 0),[],⟨[],[b],[]⟩⟩] .no) (.lp [17] ⟨.normal,[36],⟨[a],[b],[]⟩⟩ [⟨(.exit 0),[],⟨[],[b],[]⟩⟩] .no)) .no)) .no)))))))⟩]⟩ .no⟩]) (at':=(.n .no (.jn [] [] [⟨.normal,[5],⟨[h],[],[]⟩⟩] .no (.jn [] [] [⟨.ret,[4],⟨[a],[],[]⟩⟩,⟨.normal,[],⟨[],[],[]⟩⟩] (.n (.jn [] [] [⟨.normal,[19],⟨[h],[],[]⟩⟩] .no (.n .no (.jn [] [] [aq] .no .no))) .no) .no)))) (.cons dY (.cons li (.cons xJ (.cons fJ (.cons eo (.cons qk (.cons iU (.cons eC (.nil _))))))))) (cj.cons (cu (.cons dO (.cons mW (.nil _))) (cj.cons (cu (.cons eo (.cons dO (.nil _))) (cj.cons (cu (.cons rD (.cons lI (.nil _))) (cj.cons (cu (.nil _) (cj.cons (cu (.cons pL (.nil _)) (cj.nil _)) (cj.nil _))) (cj.nil _))) (cj.nil _))) (cj.nil _))) (cj.nil _)) fun _=>by kernel_rfl
def xc :FSum:=⟨51,[d],[be,c,c,g,g,k,x,ah,o,c],[⟨.ret,[],⟨[(.agg [.nilf,(.fn 92 [d] []),(.fn 93 [d] []),(.fn 94 [d] []),(.fn 95 [d] []),(.fn 82 [d] []),(.fn 96 [d] []),(.fn 97 [d] [])])],[],[]⟩⟩],by exact u30 kH⟩
theorem xF :Rt xc:=rq (.no) (.nil _) fun _=>by kernel_rfl
def vE :FSum:=⟨92,[d,a],[am,c,c,g,g,k,x,ah,o,b],[⟨.ret,[],⟨[(.tup [])],[am,b],[]⟩⟩],by exact u31 gO⟩
theorem vM :Rt vE:=rq ((.n .no (.n (.lp [0,9] ⟨.normal,[8],⟨[a],[am,b],[]⟩⟩ [⟨(.exit 0),[],⟨[],[am,b],[]⟩⟩] (.n .no (.n .no (.n (.n (.n .no (.n (.dr [0,1,2,3,4,5,6,7,8,9,10,11,13,14,15,16,17,18,19,1020,12,20,21,22,23,24,25,26,27]) .no)) .no) .no)))) .no))) (.cons dO (.cons lh (.cons am8 (.cons eo (.nil _))))) fun _=>by kernel_rfl
def mb :FSum:=⟨200,[(.agg [a,a,a]),a],[],[p],by exact u4 ij⟩
theorem pO :Rt mb:=rq (.no) (.nil _) fun _=>by kernel_rfl
def zx :FSum:=⟨136,[d,a,a,(.leaf ae)],[(.cells 1 true [a,a,a,(.ptr 1 0)]),(.cells 1 true [v,a]),b],[⟨.ret,[],⟨[a],[b],[]⟩⟩],by exact u8 lO⟩
theorem zU :Rt zx:=dx (ins:=[⟨184,dz aB 184 ⟨[mb,lg,lZ],[⟨185,dz aB 185 ⟨[nk],[]⟩ (.n .no (.n (.n (.jn [] [] [⟨.normal,[8],⟨[h],[],[]⟩⟩] .no .no) .no) .no))⟩]⟩ .no⟩]) (at':= .no) (.nil _) (cj.cons (cu (.cons pO (.cons lq (.cons md (.nil _)))) (cj.cons (cu (.cons fJ (.nil _)) (cj.nil _)) (cj.nil _))) (cj.nil _)) fun _=>by kernel_rfl
def xh :FSum:=⟨93,[d,a],[be,c,c,g,g,k,x,ah,i,b],[⟨.ret,[],⟨[(.tup [])],[i,b],[]⟩⟩],by exact u31 iF⟩
theorem xK :Rt xh:=rq (.no) (.cons dY (.cons dO (.cons zU (.nil _)))) fun _=>by kernel_rfl
def wx :FSum:=⟨137,[d,a],[(.cells 1 true [a,a,a,(.ptr 1 0)]),(.cells 1 true [v,a]),c],[⟨.ret,[],⟨[(.tup [a,w,a])],[],[b]⟩⟩],by exact u6 kf⟩
theorem wC :Rt wx:=dx (ins:=[⟨184,dz aB 184 ⟨[mb,lg,lZ],[⟨186,dz aB 186 ⟨[tO],[]⟩ .no⟩]⟩ .no⟩]) (at':= .no) (.nil _) (cj.cons (cu (.cons pO (.cons lq (.cons md (.nil _)))) (cj.cons (cu (.cons iU (.nil _)) (cj.nil _)) (cj.nil _))) (cj.nil _)) fun _=>by kernel_rfl
def vF :FSum:=⟨94,[d,a],[be,c,c,g,g,k,x,ah,o,b],[⟨.ret,[],⟨[(.tup [])],[b],[]⟩⟩],by exact u31 gP⟩
theorem vN :Rt vF:=rq (.no) (.cons wC (.cons eo (.nil _))) fun _=>by kernel_rfl
def ab5 :FSum:=⟨138,[d,a],[(.cells 1 true [a,a,a,(.ptr 1 0)]),(.cells 1 true [v,a]),b],[⟨.ret,[],⟨[a],[b],[]⟩⟩],by exact u6 mv⟩
theorem ad4 :Rt ab5:=dx (ins:=[⟨184,dz aB 184 ⟨[mb,lg,lZ],[⟨187,dz aB 187 ⟨[tS,nk],[]⟩ .no⟩]⟩ .no⟩]) (at':= .no) (.nil _) (cj.cons (cu (.cons pO (.cons lq (.cons md (.nil _)))) (cj.cons (cu (.cons oi (.cons fJ (.nil _))) (cj.nil _)) (cj.nil _))) (cj.nil _)) fun _=>by kernel_rfl
def zj :FSum:=⟨95,[d,a],[be,c,c,g,g,k,x,ah,i,b],[⟨.ret,[],⟨[(.tup [])],[i,b],[]⟩⟩],by exact u31 i7⟩
theorem zO :Rt zj:=rq (.no) (.cons ad4 (.cons eC (.nil _))) fun _=>by kernel_rfl
def zg :FSum:=⟨124,[d,(.agg [a,(.full 1)]),v,w,aa],[(.cells 1 false [a,a,a,a,a,ab,ai,a,(.full 1),a,(.full 7),a,a,(.full 8),ap,bm,(.ptr 11 0),a,a,a,a,a,a,a,m]),g,b,b,c,c,c,g,k,(.cells 1 true [(.full 12),a]),(.cells 1 true [a,a,a,ap]),o,b],[⟨.ret,[],⟨[(.tup [])],[(.cells 1 false [a,a,a,a,a,ab,ai,a,(.full 1),a,(.full 7),a,a,(.full 8),ap,bm,(.ptr 11 0),a,a,a,a,a,a,a,m]),b,b,b],[]⟩⟩],by exact u34 i5⟩
theorem zM :Rt zg:=rq ((.n .no (.n .no (.n .no (.n .no (.n .no (.n .no (.n (.n .no (.n (.lp [14] ⟨.normal,[36],⟨[a],[b],[]⟩⟩ [⟨(.exit 0),[],⟨[],[b],[]⟩⟩] .no) .no)) .no)))))))) (.cons tb (.cons eo (.cons dO (.nil _)))) fun _=>by kernel_rfl
def lQ :FSum:=⟨84,[d,(.full 1),v],[ac,b,c,c,c,g,g,k,(.cells 1 true [(.full 11),a]),(.cells 1 true [a,a,a,bd]),o,b],[⟨.ret,[],⟨[(.tup [])],[ac,b,b],[]⟩⟩],by exact u32 gJ⟩
theorem ql :Rt lQ:=rq (.no) (.cons dO (.cons mW (.cons zM (.nil _)))) fun _=>by kernel_rfl
def zi :FSum:=⟨96,[d,a],[am,c,c,g,g,k,x,ah,i,b],[⟨.ret,[],⟨[(.tup [])],[am,i,b],[]⟩⟩],by exact u31 i6⟩
theorem zN :Rt zi:=dx (ins:=[⟨121,dz aB 121 ⟨[gb,ga],[⟨139,dz aB 139 ⟨[lf,my,lQ],[]⟩ .no⟩]⟩ .no⟩]) (at':= .no) (.cons ki (.nil _)) (cj.cons (cu (.cons dY (.cons eC (.nil _))) (cj.cons (cu (.cons li (.cons rA (.cons ql (.nil _)))) (cj.nil _)) (cj.nil _))) (cj.nil _)) fun _=>by kernel_rfl
def vG :FSum:=⟨97,[d,a],[am,c,c,g,g,k,x,ah,i,b],[⟨.ret,[],⟨[(.tup [])],[am,i,b],[]⟩⟩],by exact u31 gQ⟩
theorem vO :Rt vG:=dx (ins:=[⟨121,dz aB 121 ⟨[gb,ga],[⟨140,dz aB 140 ⟨[lf,lQ],[]⟩ .no⟩]⟩ .no⟩]) (at':= .no) (.cons ki (.nil _)) (cj.cons (cu (.cons dY (.cons eC (.nil _))) (cj.cons (cu (.cons li (.cons ql (.nil _))) (cj.nil _)) (cj.nil _))) (cj.nil _)) fun _=>by kernel_rfl
def ak2 :FSum:=⟨26,[d,(.agg [a,a])],[am,c,c,g,g,k,x,ah,i,b],[⟨.ret,[],⟨[a],[am,i,b],[]⟩⟩],by exact u32 iz⟩
theorem sC :Rt ak2:=rq (.no) (.cons uO (.cons xG (.cons lR (.cons ta (.cons rE (.cons xF (.cons vM (.cons pK (.cons xK (.cons vN (.cons zO (.cons qk (.cons zN (.cons vO (.nil _))))))))))))))) fun _=>by kernel_rfl
def xq :FSum:=⟨9,[d],[br,aw,c,c,g,g,k,ak,al,i,b],[⟨.ret,[],⟨[(.tup [(.agg [a,a]),h,a])],[aw,i,b],[]⟩⟩],by exact u33 eT⟩
theorem pI :Rt xq:=rq (.no) (.cons wy (.cons sC (.nil _))) fun _=>by kernel_rfl
def zp :FSum:=⟨19,[d],[br,aw,c,c,g,g,k,ak,al,i,b],[⟨.ret,[],⟨[ar],[aw,i,b],[]⟩⟩],by exact u33 qf⟩
theorem zR :Rt zp:=rq ((.n .no (.n .no (.n (.lp [1,9,10] ⟨.normal,[4],⟨[a],[aw,i,b],[]⟩⟩ [⟨.ret,[2,3],⟨[a,a],[aw,i,b],[]⟩⟩] .no) .no)))) (.cons pI (.nil _)) fun _=>by kernel_rfl
def wj :FSum:=⟨42,[d],[be,c,c,g,g,k,x,ah,o,c],[⟨.ret,[],⟨[(.tup [(.agg [m,(.full 10),(.full 11)]),a])],[],[b,b]⟩⟩],by exact u30 jQ⟩
theorem ou :Rt wj:=rq (.no) (.cons dO (.nil _)) fun _=>by kernel_rfl
def vH :FSum:=⟨20,[d],[br,bc,c,c,g,g,k,ak,al,o,c],[⟨.ret,[],⟨[(.tup [(.agg [m,(.full 11),(.full 12)]),a])],[],[b,b]⟩⟩],by exact u33 nz⟩
theorem vP :Rt vH:=dx (ins:=[⟨24,dz aB 24 ⟨[],[]⟩ .no⟩]) (at':= .no) (.cons ou (.nil _)) (cj.cons (cu (.nil _) (cj.nil _)) (cj.nil _)) fun _=>by kernel_rfl
def wo :FSum:=⟨27,[d],[br,bc,c,c,g,g,k,ak,al,o,c],[p],by exact u33 gh⟩
theorem oB :Rt wo:=rq (.no) (.cons wy (.nil _)) fun _=>by kernel_rfl
def xj :FSum:=⟨13,[d],[br,bc,c,c,g,g,k,ak,al,o,c],[p],by exact u33 gw⟩
theorem pG :Rt xj:=rq (.no) (.cons oB (.cons lj (.nil _))) fun _=>by kernel_rfl
def zn :FSum:=⟨66,[d],[bs,bc,c,c,g,g,k,ak,al,o,c],[q],by exact u33 lL⟩
theorem zQ :Rt zn:=dx (ins:=[⟨24,dz aB 24 ⟨[],[]⟩ .no⟩]) (at':= .no) (.cons rz (.nil _)) (cj.cons (cu (.nil _) (cj.nil _)) (cj.nil _)) fun _=>by kernel_rfl
def xp :FSum:=⟨8,[d],[bs,bc,c,c,g,g,k,ak,al,o,c],[⟨.ret,[],⟨[(.agg [a,a,(.full 11)])],[],[l]⟩⟩],by exact u33 eS⟩
theorem ll :Rt xp:=dx (ins:=[⟨24,dz aB 24 ⟨[],[]⟩ .no⟩]) (at':= .no) (.cons lR (.nil _)) (cj.cons (cu (.nil _) (cj.nil _)) (cj.nil _)) fun _=>by kernel_rfl
def az7 :FSum:=⟨109,[],[],[⟨.ret,[],⟨[(.tup [(.agg [j,j]),h])],[],[]⟩⟩],fun _=>gm⟩
theorem qx :Rt az7:=rq (.no) (.nil _) fun _=>by kernel_rfl
def aI7 :FSum:=⟨161,[a,a],[],[⟨.ret,[],⟨[ar],[],[]⟩⟩],by exact u2 lA⟩
theorem aJ8 :Rt aI7:=rq ((.n .no (.n .no (.n .no (.n .no (.n (.n (.lp [] ⟨.normal,[6],⟨[a],[],[]⟩⟩ [⟨(.exit 0),[6],⟨[a],[],[]⟩⟩] .no) .no) .no)))))) (.nil _) fun _=>by kernel_rfl
def bn1 :FSum:=⟨162,[a,a],[],[⟨.ret,[],⟨[(.tup [(.agg [a,a]),h])],[],[]⟩⟩],by exact u2 gD⟩
theorem au3 :Rt bn1:=rq (.no) (.nil _) fun _=>by kernel_rfl
def az3 :FSum:=⟨164,[a,d],[(.cells 1 true [a])],[p],by exact u2 mU⟩
theorem az9 :Rt az3:=rq (.no) (.nil _) fun _=>by kernel_rfl
def bb3 :FSum:=⟨165,[a,a],[],[p],by exact u2 jD⟩
theorem vU :Rt bb3:=rq (.no) (.nil _) fun _=>by kernel_rfl
def bb2 :FSum:=⟨163,[(.leaf y),(.fn 164 [] [d]),(.fn 165 [] [])],[(.cells 1 true [a])],[q],by exact u2 qS⟩
theorem bd4 :Rt bb2:=rq ((.n .no (.n .no (.n (.n .no (.n (.lp [] ⟨.normal,[12,7],⟨[a,a],[],[]⟩⟩ [⟨(.exit 0),[7],⟨[a],[],[]⟩⟩] .no) .no)) .no)))) (.cons az9 (.cons vU (.nil _))) fun _=>by kernel_rfl
def az4 :FSum:=⟨166,[a,d],[(.cells 1 true [a])],[p],by exact u2 qu⟩
theorem aA0 :Rt az4:=rq (.no) (.nil _) fun _=>by kernel_rfl
def aI8 :FSum:=⟨163,[(.leaf y),(.fn 166 [] [d]),(.fn 165 [] [])],[(.cells 1 true [a])],[q],by exact u2 nV⟩
theorem aJ9 :Rt aI8:=rq ((.n .no (.n .no (.n (.n .no (.n (.lp [] ⟨.normal,[12,7],⟨[a,a],[],[]⟩⟩ [⟨(.exit 0),[7],⟨[a],[],[]⟩⟩] .no) .no)) .no)))) (.cons aA0 (.cons vU (.nil _))) fun _=>by kernel_rfl
def az5 :FSum:=⟨167,[a],[],[p],qv⟩
theorem aA1 :Rt az5:=rq (.no) (.nil _) fun _=>by kernel_rfl
def aI9 :FSum:=⟨163,[(.leaf y),(.fn 167 [] []),(.fn 165 [] [])],[],[q],nW⟩
theorem aK0 :Rt aI9:=rq ((.n .no (.n .no (.n (.n .no (.n (.lp [] ⟨.normal,[12,7],⟨[a,a],[],[]⟩⟩ [⟨(.exit 0),[7],⟨[a],[],[]⟩⟩] .no) .no)) .no)))) (.cons aA1 (.cons vU (.nil _))) fun _=>by kernel_rfl
def aP2 :FSum:=⟨110,[a,h,(.agg [a,a,(.leaf y)])],[],[⟨.ret,[],⟨[(.tup [(.agg [a,a]),h])],[],[]⟩⟩],by exact u5 tJ⟩
theorem aQ6 :Rt aP2:=rq ((.n .no (.n .no (.n .no (.n .no (.n .no (.n .no (.n (.n (.jn [] [] [⟨.normal,[49],⟨[h],[],[]⟩⟩] .no .no) .no) .no)))))))) (.cons aJ8 (.cons au3 (.cons bd4 (.cons aJ9 (.cons aK0 (.cons qx (.nil _))))))) fun _=>by kernel_rfl
def aP3 :FSum:=⟨168,[a],[],[p],tN⟩
theorem aQ7 :Rt aP3:=rq (.no) (.nil _) fun _=>by kernel_rfl
def az6 :FSum:=⟨169,[a,a],[],[p],by exact u2 qw⟩
theorem aA2 :Rt az6:=rq (.no) (.nil _) fun _=>by kernel_rfl
def aJ0 :FSum:=⟨163,[(.leaf y),(.fn 168 [] []),(.fn 169 [] [])],[],[q],nX⟩
theorem aK1 :Rt aJ0:=rq ((.n .no (.n .no (.n (.n .no (.n (.lp [] ⟨.normal,[12,7],⟨[a,a],[],[]⟩⟩ [⟨(.exit 0),[7],⟨[a],[],[]⟩⟩] .no) .no)) .no)))) (.cons aQ7 (.cons aA2 (.nil _))) fun _=>by kernel_rfl
def bb1 :FSum:=⟨111,[(.agg [a,a,(.leaf y)])],[],[⟨.ret,[],⟨[(.tup [(.agg [a,a]),h])],[],[]⟩⟩],by exact u3 vD⟩
theorem bd3 :Rt bb1:=rq ((.n .no (.n .no (.n .no (.n (.n (.jn [] [] [⟨.normal,[11],⟨[h],[],[]⟩⟩] .no (.n .no (.n .no (.n .no (.n .no (.n .no (.jn [] [] [⟨.normal,[42],⟨[h],[],[]⟩⟩] .no .no))))))) .no) .no))))) (.cons aK1 (.cons au3 (.cons qx (.nil _)))) fun _=>by kernel_rfl
def bb0 :FSum:=⟨67,[a,h,(.agg [a,a,(.leaf y)])],[],[⟨.ret,[],⟨[(.tup [(.agg [a,a]),h])],[],[]⟩⟩],by exact u5 vC⟩
theorem bd2 :Rt bb0:=rq ((.n .no (.n (.n .no (.sz 4 .no .no)) .no))) (.cons ta (.cons qx (.cons aQ6 (.cons bd3 (.nil _))))) fun _=>by kernel_rfl
def aH9 :FSum:=⟨38,[d],[bs,bc,c,c,g,g,k,ak,al,o,c],[⟨.ret,[],⟨[(.tup [(.agg [a,a]),h])],[],[]⟩⟩],by exact u33 lx⟩
theorem yO :Rt aH9:=rq (.no) (.cons zQ (.cons ll (.cons bd2 (.nil _)))) fun _=>by kernel_rfl
def xr :FSum:=⟨9,[d],[bs,aw,c,c,g,g,k,ak,al,i,b],[⟨.ret,[],⟨[(.tup [(.agg [a,a]),h,a])],[aw,i,b],[]⟩⟩],by exact u33 eU⟩
theorem pJ :Rt xr:=rq (.no) (.cons yO (.cons sC (.nil _))) fun _=>by kernel_rfl
def zq :FSum:=⟨19,[d],[bs,aw,c,c,g,g,k,ak,al,i,b],[⟨.ret,[],⟨[ar],[aw,i,b],[]⟩⟩],by exact u33 qg⟩
theorem zS :Rt zq:=rq ((.n .no (.n .no (.n (.lp [1,9,10] ⟨.normal,[4],⟨[a],[aw,i,b],[]⟩⟩ [⟨.ret,[2,3],⟨[a,a],[aw,i,b],[]⟩⟩] .no) .no)))) (.cons pJ (.nil _)) fun _=>by kernel_rfl
def vI :FSum:=⟨20,[d],[bs,bc,c,c,g,g,k,ak,al,o,c],[⟨.ret,[],⟨[(.tup [(.agg [m,(.full 11),(.full 12)]),a])],[],[b,b]⟩⟩],by exact u33 nA⟩
theorem vQ :Rt vI:=dx (ins:=[⟨24,dz aB 24 ⟨[],[]⟩ .no⟩]) (at':= .no) (.cons ou (.nil _)) (cj.cons (cu (.nil _) (cj.nil _)) (cj.nil _)) fun _=>by kernel_rfl
def wq :FSum:=⟨27,[d],[bs,bc,c,c,g,g,k,ak,al,o,c],[p],by exact u33 gi⟩
theorem oC :Rt wq:=rq (.no) (.cons yO (.nil _)) fun _=>by kernel_rfl
def xk :FSum:=⟨13,[d],[bs,bc,c,c,g,g,k,ak,al,o,c],[p],by exact u33 gx⟩
theorem pH :Rt xk:=rq (.no) (.cons oC (.cons ll (.nil _))) fun _=>by kernel_rfl
def bk4 :FSum:=⟨6,[],[],[p],fun _=>gR⟩
theorem bn7 :Rt bk4:=rq ((.n .no (.n .no (.sz 1520014 .no (.sz 1480014 .no (.sz 1565013 .no .no)))))) (.cons aJ4 (.cons at4 (.cons al9 (.cons xN (.cons rB (.cons bo5 (.cons zR (.cons vP (.cons pG (.cons zS (.cons vQ (.cons pH (.nil _))))))))))))) fun _=>by kernel_rfl
def aO9 :FSum:=⟨43,[a,a],[],[⟨.ret,[],⟨[ar],[],[]⟩⟩],by exact u2 mq⟩
theorem ad0 :Rt aO9:=rq ((.n .no (.n .no (.n .no (.n (.n (.lp [] ⟨.normal,[6],⟨[a],[],[]⟩⟩ [⟨(.exit 0),[6],⟨[a],[],[]⟩⟩] .no) .no) .no))))) (.nil _) fun _=>by kernel_rfl
def bm4 :FSum:=⟨45,[(.leaf y),a],[],[q],by exact u2 fX⟩
theorem au1 :Rt bm4:=rq ((.n .no (.n (.n .no (.n (.lp [] ⟨.normal,[5],⟨[a],[],[]⟩⟩ [⟨.ret,[4],⟨[a],[],[]⟩⟩,⟨(.exit 0),[],⟨[],[],[]⟩⟩] .no) .no)) .no))) (.nil _) fun _=>by kernel_rfl
def bm5 :FSum:=⟨74,[(.leaf y),a],[],[⟨.ret,[],⟨[(.tup [(.full 0),(.full 1)])],[],[r,l]⟩⟩],by exact u2 sU⟩
theorem bp2 :Rt bm5:=rq ((.n .no (.n .no (.n .no (.n (.n .no (.n (.lp [] ⟨.normal,[8,7],⟨[a,v],[],[l]⟩⟩ [⟨(.exit 0),[7],⟨[v],[],[l]⟩⟩] .no) .no)) (.n .no (.n (.n .no (.n (.lp [2] ⟨.normal,[11,6],⟨[a,w],[l],[r]⟩⟩ [⟨(.exit 2),[6],⟨[w],[l],[r]⟩⟩] (.n .no (.n (.n (.jn [] [] [⟨.normal,[48],⟨[h],[],[]⟩⟩] .no .no) .no) .no))) .no)) .no))))))) (.cons ad0 (.cons au1 (.nil _))) fun _=>by kernel_rfl
def ba7 :FSum:=⟨44,[a,a],[],[⟨.ret,[],⟨[(.tup [(.full 0),(.full 1)])],[],[r,l]⟩⟩],by exact u2 qQ⟩
theorem bc7 :Rt ba7:=rq ((.n .no (.n .no (.n (.n .no (.n (.lp [0] ⟨.normal,[7],⟨[a],[l],[]⟩⟩ [⟨(.exit 0),[],⟨[],[l],[]⟩⟩] .no) .no)) (.n .no (.n (.n .no (.n (.lp [] ⟨.normal,[9,8,6],⟨[a,v,w],[],[r,l]⟩⟩ [⟨(.exit 2),[8,6],⟨[v,w],[],[r,l]⟩⟩] (.n .no (.n (.n (.jn [] [2] [⟨.normal,[8],⟨[aa],[],[r]⟩⟩] .no .no) .no) .no))) .no)) .no)))))) (.cons bp2 (.nil _)) fun _=>by kernel_rfl
def bm3 :FSum:=⟨22,[a,a],[],[⟨.ret,[],⟨[(.tup [(.full 0),a])],[],[r]⟩⟩],by exact u2 sT⟩
theorem bp1 :Rt bm3:=rq ((.n .no (.n .no (.n .no (.n .no (.n .no (.jn [] [3] [⟨.normal,[8],⟨[aa],[],[r]⟩⟩] .no (.n (.n .no (.n (.lp [] ⟨.normal,[10,8],⟨[a,ab],[],[r]⟩⟩ [⟨(.exit 0),[8],⟨[ab],[],[r]⟩⟩] (.n .no (.n (.n (.n .no (.n .no (.jn [] [7] [⟨.normal,[8],⟨[(.full 8)],[],[r]⟩⟩] .no .no))) .no) .no))) .no)) .no)))))))) (.cons ad0 (.cons bc7 (.cons au1 (.nil _)))) fun _=>by kernel_rfl
def ba6 :FSum:=⟨75,[(.leaf (.list .bool))],[],[q],qP⟩
theorem bc6 :Rt ba6:=rq ((.n .no (.n .no (.n (.n (.lp [] ⟨.normal,[3],⟨[a],[],[]⟩⟩ [⟨(.exit 0),[3],⟨[a],[],[]⟩⟩] .no) .no) .no)))) (.nil _) fun _=>by kernel_rfl
def bm2 :FSum:=⟨76,[(.leaf (.list .bool)),a,h],[],[⟨.ret,[],⟨[(.full 0)],[],[(.arr false .bool)]⟩⟩],by exact u3 sS⟩
theorem bp0 :Rt bm2:=rq ((.n .no (.n .no (.n (.n .no (.n (.lp [] ⟨.normal,[8,7],⟨[a,(.full 1)],[],[(.arr false .bool)]⟩⟩ [⟨(.exit 0),[7],⟨[(.full 1)],[],[(.arr false .bool)]⟩⟩] .no) .no)) .no)))) (.nil _) fun _=>by kernel_rfl
def bk9 :FSum:=⟨174,[a],[],[q],sL⟩
theorem bn9 :Rt bk9:=rq (.no) (.nil _) fun _=>by kernel_rfl
def aO4 :FSum:=⟨116,[a,a],[],[q],by exact u2 jW⟩
theorem ac8 :Rt aO4:=rq ((.n .no (.n .no (.jn [] [] [⟨.normal,[1],⟨[a],[],[]⟩⟩] .no (.n .no (.n (.n .no (.n (.lp [] ⟨.normal,[6,5],⟨[a,a],[],[]⟩⟩ [⟨.ret,[4],⟨[(.cint .i64 1099511627776)],[],[]⟩⟩,⟨(.exit 0),[5],⟨[a],[],[]⟩⟩] .no) .no)) .no)))))) (.cons bn9 (.nil _)) fun _=>by kernel_rfl
def aI5 :FSum:=⟨173,[a,a],[],[⟨.ret,[],⟨[ar],[],[]⟩⟩],by exact u2 nO⟩
theorem aJ5 :Rt aI5:=rq (.no) (.cons ac8 (.nil _)) fun _=>by kernel_rfl
def bl9 :FSum:=⟨115,[a,a],[],[⟨.ret,[],⟨[ar],[],[]⟩⟩],by exact u2 sQ⟩
theorem bo7 :Rt bl9:=rq ((.n .no (.n .no (.n .no (.n .no (.n (.lp [] ⟨.normal,[6],⟨[a],[],[]⟩⟩ [⟨.ret,[4,5],⟨[a,j],[],[]⟩⟩] .no) .no)))))) (.cons aJ5 (.nil _)) fun _=>by kernel_rfl
def ba5 :FSum:=⟨77,[a,a],[],[⟨.ret,[],⟨[ar],[],[]⟩⟩],by exact u2 qO⟩
theorem bc5 :Rt ba5:=rq (.no) (.cons bo7 (.cons ac8 (.nil _))) fun _=>by kernel_rfl
def aO8 (n:Nat):FSum:=⟨46,[a,a,(.leaf (.list .bool)),h],[],[⟨.ret,[],⟨[(.leaf (.list bw))],[],[]⟩⟩],fun t=>(iN n) t.1 t.2.1 t.2.2.1 t.2.2.2⟩
theorem wB : ∀n,sH aB (aO8 n)
 |0=>ar3 (fun t=>rfl)
 |n+1=>rq ((.n .no (.n .no (.jn [0] [] [⟨.normal,[],⟨[],[(.cells 1 false [a,j])],[]⟩⟩] .no (.n .no (.n .no (.n .no (.n .no (.n (.n (.lp [] ⟨.normal,[0,12,3],⟨[a,w,h],[],[r]⟩⟩ [⟨(.exit 0),[12],⟨[w],[],[r]⟩⟩] .no) .no) .no))))))))) (.cons bc6 (.cons bp0 (.cons bc5 (.cons (wB n) (.nil _))))) fun _=>by kernel_rfl
def bm1 :FSum:=⟨46,[a,a,(.leaf (.list .bool)),h],[],[⟨.ret,[],⟨[(.leaf (.list bw))],[],[]⟩⟩],by exact u4 wW⟩
theorem bo9 :Rt bm1:=(wB 400)
def bm0 :FSum:=⟨23,[a,a],[],[⟨.ret,[],⟨[(.tup [(.leaf (.list bw)),a])],[],[]⟩⟩],by exact u2 sR⟩
theorem bo8 :Rt bm0:=rq (.no) (.cons bo9 (.nil _)) fun _=>by kernel_rfl
def bk5 :FSum:=⟨7,[a,a,a],[],[⟨.ret,[],⟨[(.tup [(.leaf (.list bw)),h])],[],[]⟩⟩],by exact u3 gS⟩
theorem bn8 :Rt bk5:=rq (.no) (.cons bp1 (.cons bo8 (.nil _))) fun _=>by kernel_rfl
def zr :FSum:=⟨10,[d],[bq,bx,c,c,g,g,k,x,o,c],[p],by exact u30 lM⟩
theorem qm :Rt zr:=rq (.no) (.cons qo (.nil _)) fun _=>by kernel_rfl
def ak3 :FSum:=⟨28,[d],[an,c,c,g,g,k,ag,o,c],[⟨.ret,[],⟨[a],[an],[]⟩⟩],by exact u27 sr⟩
theorem al4 :Rt ak3:=rq (.no) (.nil _) fun _=>by kernel_rfl
def aa7 :FSum:=⟨11,[d,h],[(.cells 1 false [(.ptr 1 0),a,(.fn 39 [] []),h,h]),bv,c,c,g,g,k,x,o,c],[⟨.ret,[],⟨[a],[(.cells 1 false [(.ptr 1 0),a,(.fn 39 [] []),h,h]),bv],[]⟩⟩],by exact u31 re⟩
theorem ac2 :Rt aa7:=rq (.no) (.cons qm (.cons al4 (.nil _))) fun _=>by kernel_rfl
def bl8 :FSum:=⟨12,[(.leaf (.list bw)),(.leaf (.list bw))],[],[p],by exact u2 mR⟩
theorem bo6 :Rt bl8:=rq ((.n .no (.n .no (.n (.n .no (.n (.lp [] ⟨.normal,[5],⟨[a],[],[]⟩⟩ [⟨.ret,[4],⟨[h],[],[]⟩⟩,⟨(.exit 0),[],⟨[],[],[]⟩⟩] .no) .no)) .no)))) (.nil _) fun _=>by kernel_rfl
def wl :FSum:=⟨10,[d],[br,bc,c,c,g,g,k,ak,al,o,c],[p],by exact u33 gg⟩
theorem oz :Rt wl:=rq (.no) (.cons oB (.nil _)) fun _=>by kernel_rfl
def yZ :FSum:=⟨28,[d],[am,c,c,g,g,k,x,ah,o,c],[⟨.ret,[],⟨[a],[am],[]⟩⟩],by exact u30 gH⟩
theorem qj :Rt yZ:=rq (.no) (.nil _) fun _=>by kernel_rfl
def xl :FSum:=⟨11,[d,h],[(.cells 1 false [(.ptr 1 0),a,(.fn 37 [] []),h,h]),aw,c,c,g,g,k,ak,al,o,c],[⟨.ret,[],⟨[a],[(.cells 1 false [(.ptr 1 0),a,(.fn 37 [] []),h,h]),aw],[]⟩⟩],by exact u34 oX⟩
theorem xL :Rt xl:=rq (.no) (.cons oz (.cons qj (.nil _))) fun _=>by kernel_rfl
def wm :FSum:=⟨10,[d],[bs,bc,c,c,g,g,k,ak,al,o,c],[p],by exact u33 dQ⟩
theorem oA :Rt wm:=rq (.no) (.cons oC (.nil _)) fun _=>by kernel_rfl
def xm :FSum:=⟨11,[d,h],[(.cells 1 false [(.ptr 1 0),a,(.fn 38 [] []),h,h]),aw,c,c,g,g,k,ak,al,o,c],[⟨.ret,[],⟨[a],[(.cells 1 false [(.ptr 1 0),a,(.fn 38 [] []),h,h]),aw],[]⟩⟩],by exact u34 fH⟩
theorem xM :Rt xm:=rq (.no) (.cons oA (.cons qj (.nil _))) fun _=>by kernel_rfl
def nq :FSum:=⟨3,[aj,(.leaf (.int .u8))],[],[p],by exact u10 dI⟩
theorem am0 :Rt nq:=rq ((.n .no (.n .no (.sz 760012 (.n (.sz 760012 (.jn [] [] [aq] .no .no) (.sz 740012 (.jn [] [] [aq] .no .no) (.sz 783011 (.jn [] [] [aq] .no .no) (.jn [] [] [aq] .no .no)))) (.n .no (.n .no (.sz 760012 (.jn [] [] [⟨.normal,[7],⟨[a],[],[]⟩⟩] .no (.n .no (.n .no (.n .no (.n (.n .no (.n (.sz 760014 (.lp [1,2,10,11] bj [bg,⟨(.exit 0),[10],⟨[(.full 14)],[az,ac,i,b],[r]⟩⟩] .no) (.sz 740014 (.lp [1,2,10,11] bk [bh,⟨(.exit 0),[10],⟨[(.full 14)],[ba,ac,i,b],[r]⟩⟩] .no) (.lp [1,2,9,10] bl [bi,⟨(.exit 0),[10],⟨[(.full 12)],[bb,ax,i,b],[r]⟩⟩] .no))) .no)) .no))))) (.sz 740012 (.jn [] [] [⟨.normal,[7],⟨[a],[],[]⟩⟩] .no (.n .no (.n .no (.n .no (.n (.n .no (.n (.sz 760014 (.lp [1,2,10,11] bj [bg,⟨(.exit 0),[10],⟨[(.full 14)],[az,ac,i,b],[r]⟩⟩] .no) (.sz 740014 (.lp [1,2,10,11] bk [bh,⟨(.exit 0),[10],⟨[(.full 14)],[ba,ac,i,b],[r]⟩⟩] .no) (.lp [1,2,9,10] bl [bi,⟨(.exit 0),[10],⟨[(.full 12)],[bb,ax,i,b],[r]⟩⟩] .no))) .no)) .no))))) (.jn [] [] [⟨.normal,[7],⟨[a],[],[]⟩⟩] .no (.n .no (.n .no (.n .no (.n (.n .no (.n (.sz 760014 (.lp [1,2,10,11] bj [bg,⟨(.exit 0),[10],⟨[(.full 14)],[az,ac,i,b],[r]⟩⟩] .no) (.sz 740014 (.lp [1,2,10,11] bk [bh,⟨(.exit 0),[10],⟨[(.full 14)],[ba,ac,i,b],[r]⟩⟩] .no) (.lp [1,2,9,10] bl [bi,⟨(.exit 0),[10],⟨[(.full 12)],[bb,ax,i,b],[r]⟩⟩] .no))) .no)) .no)))))))))) (.sz 740012 (.n (.sz 760012 (.jn [] [] [aq] .no .no) (.sz 740012 (.jn [] [] [aq] .no .no) (.sz 783011 (.jn [] [] [aq] .no .no) (.jn [] [] [aq] .no .no)))) (.n .no (.n .no (.sz 760012 (.jn [] [] [⟨.normal,[7],⟨[a],[],[]⟩⟩] .no (.n .no (.n .no (.n .no (.n (.n .no (.n (.sz 760014 (.lp [1,2,10,11] bj [bg,⟨(.exit 0),[10],⟨[(.full 14)],[az,ac,i,b],[r]⟩⟩] .no) (.sz 740014 (.lp [1,2,10,11] bk [bh,⟨(.exit 0),[10],⟨[(.full 14)],[ba,ac,i,b],[r]⟩⟩] .no) (.lp [1,2,9,10] bl [bi,⟨(.exit 0),[10],⟨[(.full 12)],[bb,ax,i,b],[r]⟩⟩] .no))) .no)) .no))))) (.sz 740012 (.jn [] [] [⟨.normal,[7],⟨[a],[],[]⟩⟩] .no (.n .no (.n .no (.n .no (.n (.n .no (.n (.sz 760014 (.lp [1,2,10,11] bj [bg,⟨(.exit 0),[10],⟨[(.full 14)],[az,ac,i,b],[r]⟩⟩] .no) (.sz 740014 (.lp [1,2,10,11] bk [bh,⟨(.exit 0),[10],⟨[(.full 14)],[ba,ac,i,b],[r]⟩⟩] .no) (.lp [1,2,9,10] bl [bi,⟨(.exit 0),[10],⟨[(.full 12)],[bb,ax,i,b],[r]⟩⟩] .no))) .no)) .no))))) (.jn [] [] [⟨.normal,[7],⟨[a],[],[]⟩⟩] .no (.n .no (.n .no (.n .no (.n (.n .no (.n (.sz 760014 (.lp [1,2,10,11] bj [bg,⟨(.exit 0),[10],⟨[(.full 14)],[az,ac,i,b],[r]⟩⟩] .no) (.sz 740014 (.lp [1,2,10,11] bk [bh,⟨(.exit 0),[10],⟨[(.full 14)],[ba,ac,i,b],[r]⟩⟩] .no) (.lp [1,2,9,10] bl [bi,⟨(.exit 0),[10],⟨[(.full 12)],[bb,ax,i,b],[r]⟩⟩] .no))) .no)) .no)))))))))) (.sz 783011 (.n (.sz 760012 (.jn [] [] [aq] .no .no) (.sz 740012 (.jn [] [] [aq] .no .no) (.sz 783011 (.jn [] [] [aq] .no .no) (.jn [] [] [aq] .no .no)))) (.n .no (.n .no (.sz 760012 (.jn [] [] [⟨.normal,[7],⟨[a],[],[]⟩⟩] .no (.n .no (.n .no (.n .no (.n (.n .no (.n (.sz 760014 (.lp [1,2,10,11] bj [bg,⟨(.exit 0),[10],⟨[(.full 14)],[az,ac,i,b],[r]⟩⟩] .no) (.sz 740014 (.lp [1,2,10,11] bk [bh,⟨(.exit 0),[10],⟨[(.full 14)],[ba,ac,i,b],[r]⟩⟩] .no) (.lp [1,2,9,10] bl [bi,⟨(.exit 0),[10],⟨[(.full 12)],[bb,ax,i,b],[r]⟩⟩] .no))) .no)) .no))))) (.sz 740012 (.jn [] [] [⟨.normal,[7],⟨[a],[],[]⟩⟩] .no (.n .no (.n .no (.n .no (.n (.n .no (.n (.sz 760014 (.lp [1,2,10,11] bj [bg,⟨(.exit 0),[10],⟨[(.full 14)],[az,ac,i,b],[r]⟩⟩] .no) (.sz 740014 (.lp [1,2,10,11] bk [bh,⟨(.exit 0),[10],⟨[(.full 14)],[ba,ac,i,b],[r]⟩⟩] .no) (.lp [1,2,9,10] bl [bi,⟨(.exit 0),[10],⟨[(.full 12)],[bb,ax,i,b],[r]⟩⟩] .no))) .no)) .no))))) (.jn [] [] [⟨.normal,[7],⟨[a],[],[]⟩⟩] .no (.n .no (.n .no (.n .no (.n (.n .no (.n (.sz 760014 (.lp [1,2,10,11] bj [bg,⟨(.exit 0),[10],⟨[(.full 14)],[az,ac,i,b],[r]⟩⟩] .no) (.sz 740014 (.lp [1,2,10,11] bk [bh,⟨(.exit 0),[10],⟨[(.full 14)],[ba,ac,i,b],[r]⟩⟩] .no) (.lp [1,2,9,10] bl [bi,⟨(.exit 0),[10],⟨[(.full 12)],[bb,ax,i,b],[r]⟩⟩] .no))) .no)) .no)))))))))) (.n (.sz 760012 (.jn [] [] [aq] .no .no) (.sz 740012 (.jn [] [] [aq] .no .no) (.sz 783011 (.jn [] [] [aq] .no .no) (.jn [] [] [aq] .no .no)))) (.n .no (.n .no (.sz 760012 (.jn [] [] [⟨.normal,[7],⟨[a],[],[]⟩⟩] .no (.n .no (.n .no (.n .no (.n (.n .no (.n (.sz 760014 (.lp [1,2,10,11] bj [bg,⟨(.exit 0),[10],⟨[(.full 14)],[az,ac,i,b],[r]⟩⟩] .no) (.sz 740014 (.lp [1,2,10,11] bk [bh,⟨(.exit 0),[10],⟨[(.full 14)],[ba,ac,i,b],[r]⟩⟩] .no) (.lp [1,2,9,10] bl [bi,⟨(.exit 0),[10],⟨[(.full 12)],[bb,ax,i,b],[r]⟩⟩] .no))) .no)) .no))))) (.sz 740012 (.jn [] [] [⟨.normal,[7],⟨[a],[],[]⟩⟩] .no (.n .no (.n .no (.n .no (.n (.n .no (.n (.sz 760014 (.lp [1,2,10,11] bj [bg,⟨(.exit 0),[10],⟨[(.full 14)],[az,ac,i,b],[r]⟩⟩] .no) (.sz 740014 (.lp [1,2,10,11] bk [bh,⟨(.exit 0),[10],⟨[(.full 14)],[ba,ac,i,b],[r]⟩⟩] .no) (.lp [1,2,9,10] bl [bi,⟨(.exit 0),[10],⟨[(.full 12)],[bb,ax,i,b],[r]⟩⟩] .no))) .no)) .no))))) (.jn [] [] [⟨.normal,[7],⟨[a],[],[]⟩⟩] .no (.n .no (.n .no (.n .no (.n (.n .no (.n (.sz 760014 (.lp [1,2,10,11] bj [bg,⟨(.exit 0),[10],⟨[(.full 14)],[az,ac,i,b],[r]⟩⟩] .no) (.sz 740014 (.lp [1,2,10,11] bk [bh,⟨(.exit 0),[10],⟨[(.full 14)],[ba,ac,i,b],[r]⟩⟩] .no) (.lp [1,2,9,10] bl [bi,⟨(.exit 0),[10],⟨[(.full 12)],[bb,ax,i,b],[r]⟩⟩] .no))) .no)) .no)))))))))))))))) (.cons at4 (.cons bc0 (.cons bn7 (.cons mC (.cons bn8 (.cons rC (.cons qm (.cons ac2 (.cons bo6 (.cons rB (.cons lj (.cons pI (.cons oz (.cons xL (.cons pG (.cons ll (.cons pJ (.cons oA (.cons xM (.cons pH (.nil _))))))))))))))))))))) fun _=>by kernel_rfl
end
end Go.V
