/- A part of the proofs of this claim: what functions of the program answer on an abstract machine, and plain laws. No condition. -/
import Derived.Test.YtbocegmeciaanaaGreatD2
import Derived.Test.YtbocegmeciaanaaGreatRows
import Derived.KernelRfl
set_option linter.unusedVariables false
set_option linter.unusedSimpArgs false
set_option linter.unusedSectionVars false
namespace Go.V
open Go.Ab Go.Proofs
open Option renaming some->C,none->O
open Bool renaming true->Za,false->Zb
open Decidable renaming decide->Zc
section
open Tryz renaming prog -> aB
abbrev u2 {a b c:Type}(f:a->b->c)(t:a×b):c:=f t.1 t.2
abbrev u3 {x0 x1 x2 x3:Type}(f:x0->x1->x2->x3)(t:x0×x1×x2):x3:=u2 (f t.1) t.2
abbrev u4 {x0 x1 x2 x3 x4:Type}(f:x0->x1->x2->x3->x4)(t:x0×x1×x2×x3):x4:=u3 (f t.1) t.2
abbrev u5 {x0 x1 x2 x3 x4 x5:Type}(f:x0->x1->x2->x3->x4->x5)(t:x0×x1×x2×x3×x4):x5:=u4 (f t.1) t.2
abbrev u6 {x0 x1 x2 x3 x4 x5 x6:Type}(f:x0->x1->x2->x3->x4->x5->x6)(t:x0×x1×x2×x3×x4×x5):x6:=u5 (f t.1) t.2
abbrev u7 {x0 x1 x2 x3 x4 x5 x6 x7:Type}(f:x0->x1->x2->x3->x4->x5->x6->x7)(t:x0×x1×x2×x3×x4×x5×x6):x7:=u6 (f t.1) t.2
abbrev u8 {x0 x1 x2 x3 x4 x5 x6 x7 x8:Type}(f:x0->x1->x2->x3->x4->x5->x6->x7->x8)(t:x0×x1×x2×x3×x4×x5×x6×x7):x8:=u7 (f t.1) t.2
abbrev u9 {x0 x1 x2 x3 x4 x5 x6 x7 x8 x9:Type}(f:x0->x1->x2->x3->x4->x5->x6->x7->x8->x9)(t:x0×x1×x2×x3×x4×x5×x6×x7×x8):x9:=u8 (f t.1) t.2
abbrev u10 {x0 x1 x2 x3 x4 x5 x6 x7 x8 x9 x10:Type}(f:x0->x1->x2->x3->x4->x5->x6->x7->x8->x9->x10)(t:x0×x1×x2×x3×x4×x5×x6×x7×x8×x9):x10:=u9 (f t.1) t.2
abbrev u11 {x0 x1 x2 x3 x4 x5 x6 x7 x8 x9 x10 x11:Type}(f:x0->x1->x2->x3->x4->x5->x6->x7->x8->x9->x10->x11)(t:x0×x1×x2×x3×x4×x5×x6×x7×x8×x9×x10):x11:=u10 (f t.1) t.2
abbrev u12 {x0 x1 x2 x3 x4 x5 x6 x7 x8 x9 x10 x11 x12:Type}(f:x0->x1->x2->x3->x4->x5->x6->x7->x8->x9->x10->x11->x12)(t:x0×x1×x2×x3×x4×x5×x6×x7×x8×x9×x10×x11):x12:=u11 (f t.1) t.2
abbrev u13 {x0 x1 x2 x3 x4 x5 x6 x7 x8 x9 x10 x11 x12 x13:Type}(f:x0->x1->x2->x3->x4->x5->x6->x7->x8->x9->x10->x11->x12->x13)(t:x0×x1×x2×x3×x4×x5×x6×x7×x8×x9×x10×x11×x12):x13:=u12 (f t.1) t.2
abbrev u14 {x0 x1 x2 x3 x4 x5 x6 x7 x8 x9 x10 x11 x12 x13 x14:Type}(f:x0->x1->x2->x3->x4->x5->x6->x7->x8->x9->x10->x11->x12->x13->x14)(t:x0×x1×x2×x3×x4×x5×x6×x7×x8×x9×x10×x11×x12×x13):x14:=u13 (f t.1) t.2
abbrev u15 {x0 x1 x2 x3 x4 x5 x6 x7 x8 x9 x10 x11 x12 x13 x14 x15:Type}(f:x0->x1->x2->x3->x4->x5->x6->x7->x8->x9->x10->x11->x12->x13->x14->x15)(t:x0×x1×x2×x3×x4×x5×x6×x7×x8×x9×x10×x11×x12×x13×x14):x15:=u14 (f t.1) t.2
abbrev u16 {x0 x1 x2 x3 x4 x5 x6 x7 x8 x9 x10 x11 x12 x13 x14 x15 x16:Type}(f:x0->x1->x2->x3->x4->x5->x6->x7->x8->x9->x10->x11->x12->x13->x14->x15->x16)(t:x0×x1×x2×x3×x4×x5×x6×x7×x8×x9×x10×x11×x12×x13×x14×x15):x16:=u15 (f t.1) t.2
abbrev u17 {x0 x1 x2 x3 x4 x5 x6 x7 x8 x9 x10 x11 x12 x13 x14 x15 x16 x17:Type}(f:x0->x1->x2->x3->x4->x5->x6->x7->x8->x9->x10->x11->x12->x13->x14->x15->x16->x17)(t:x0×x1×x2×x3×x4×x5×x6×x7×x8×x9×x10×x11×x12×x13×x14×x15×x16):x17:=u16 (f t.1) t.2
abbrev u18 {x0 x1 x2 x3 x4 x5 x6 x7 x8 x9 x10 x11 x12 x13 x14 x15 x16 x17 x18:Type}(f:x0->x1->x2->x3->x4->x5->x6->x7->x8->x9->x10->x11->x12->x13->x14->x15->x16->x17->x18)(t:x0×x1×x2×x3×x4×x5×x6×x7×x8×x9×x10×x11×x12×x13×x14×x15×x16×x17):x18:=u17 (f t.1) t.2
abbrev u19 {x0 x1 x2 x3 x4 x5 x6 x7 x8 x9 x10 x11 x12 x13 x14 x15 x16 x17 x18 x19:Type}(f:x0->x1->x2->x3->x4->x5->x6->x7->x8->x9->x10->x11->x12->x13->x14->x15->x16->x17->x18->x19)(t:x0×x1×x2×x3×x4×x5×x6×x7×x8×x9×x10×x11×x12×x13×x14×x15×x16×x17×x18):x19:=u18 (f t.1) t.2
abbrev u20 {x0 x1 x2 x3 x4 x5 x6 x7 x8 x9 x10 x11 x12 x13 x14 x15 x16 x17 x18 x19 x20:Type}(f:x0->x1->x2->x3->x4->x5->x6->x7->x8->x9->x10->x11->x12->x13->x14->x15->x16->x17->x18->x19->x20)(t:x0×x1×x2×x3×x4×x5×x6×x7×x8×x9×x10×x11×x12×x13×x14×x15×x16×x17×x18×x19):x20:=u19 (f t.1) t.2
abbrev u21 {x0 x1 x2 x3 x4 x5 x6 x7 x8 x9 x10 x11 x12 x13 x14 x15 x16 x17 x18 x19 x20 x21:Type}(f:x0->x1->x2->x3->x4->x5->x6->x7->x8->x9->x10->x11->x12->x13->x14->x15->x16->x17->x18->x19->x20->x21)(t:x0×x1×x2×x3×x4×x5×x6×x7×x8×x9×x10×x11×x12×x13×x14×x15×x16×x17×x18×x19×x20):x21:=u20 (f t.1) t.2
abbrev u22 {x0 x1 x2 x3 x4 x5 x6 x7 x8 x9 x10 x11 x12 x13 x14 x15 x16 x17 x18 x19 x20 x21 x22:Type}(f:x0->x1->x2->x3->x4->x5->x6->x7->x8->x9->x10->x11->x12->x13->x14->x15->x16->x17->x18->x19->x20->x21->x22)(t:x0×x1×x2×x3×x4×x5×x6×x7×x8×x9×x10×x11×x12×x13×x14×x15×x16×x17×x18×x19×x20×x21):x22:=u21 (f t.1) t.2
abbrev u23 {x0 x1 x2 x3 x4 x5 x6 x7 x8 x9 x10 x11 x12 x13 x14 x15 x16 x17 x18 x19 x20 x21 x22 x23:Type}(f:x0->x1->x2->x3->x4->x5->x6->x7->x8->x9->x10->x11->x12->x13->x14->x15->x16->x17->x18->x19->x20->x21->x22->x23)(t:x0×x1×x2×x3×x4×x5×x6×x7×x8×x9×x10×x11×x12×x13×x14×x15×x16×x17×x18×x19×x20×x21×x22):x23:=u22 (f t.1) t.2
abbrev u24 {x0 x1 x2 x3 x4 x5 x6 x7 x8 x9 x10 x11 x12 x13 x14 x15 x16 x17 x18 x19 x20 x21 x22 x23 x24:Type}(f:x0->x1->x2->x3->x4->x5->x6->x7->x8->x9->x10->x11->x12->x13->x14->x15->x16->x17->x18->x19->x20->x21->x22->x23->x24)(t:x0×x1×x2×x3×x4×x5×x6×x7×x8×x9×x10×x11×x12×x13×x14×x15×x16×x17×x18×x19×x20×x21×x22×x23):x24:=u23 (f t.1) t.2
abbrev u25 {x0 x1 x2 x3 x4 x5 x6 x7 x8 x9 x10 x11 x12 x13 x14 x15 x16 x17 x18 x19 x20 x21 x22 x23 x24 x25:Type}(f:x0->x1->x2->x3->x4->x5->x6->x7->x8->x9->x10->x11->x12->x13->x14->x15->x16->x17->x18->x19->x20->x21->x22->x23->x24->x25)(t:x0×x1×x2×x3×x4×x5×x6×x7×x8×x9×x10×x11×x12×x13×x14×x15×x16×x17×x18×x19×x20×x21×x22×x23×x24):x25:=u24 (f t.1) t.2
abbrev u26 {x0 x1 x2 x3 x4 x5 x6 x7 x8 x9 x10 x11 x12 x13 x14 x15 x16 x17 x18 x19 x20 x21 x22 x23 x24 x25 x26:Type}(f:x0->x1->x2->x3->x4->x5->x6->x7->x8->x9->x10->x11->x12->x13->x14->x15->x16->x17->x18->x19->x20->x21->x22->x23->x24->x25->x26)(t:x0×x1×x2×x3×x4×x5×x6×x7×x8×x9×x10×x11×x12×x13×x14×x15×x16×x17×x18×x19×x20×x21×x22×x23×x24×x25):x26:=u25 (f t.1) t.2
abbrev u27 {x0 x1 x2 x3 x4 x5 x6 x7 x8 x9 x10 x11 x12 x13 x14 x15 x16 x17 x18 x19 x20 x21 x22 x23 x24 x25 x26 x27:Type}(f:x0->x1->x2->x3->x4->x5->x6->x7->x8->x9->x10->x11->x12->x13->x14->x15->x16->x17->x18->x19->x20->x21->x22->x23->x24->x25->x26->x27)(t:x0×x1×x2×x3×x4×x5×x6×x7×x8×x9×x10×x11×x12×x13×x14×x15×x16×x17×x18×x19×x20×x21×x22×x23×x24×x25×x26):x27:=u26 (f t.1) t.2
abbrev u28 {x0 x1 x2 x3 x4 x5 x6 x7 x8 x9 x10 x11 x12 x13 x14 x15 x16 x17 x18 x19 x20 x21 x22 x23 x24 x25 x26 x27 x28:Type}(f:x0->x1->x2->x3->x4->x5->x6->x7->x8->x9->x10->x11->x12->x13->x14->x15->x16->x17->x18->x19->x20->x21->x22->x23->x24->x25->x26->x27->x28)(t:x0×x1×x2×x3×x4×x5×x6×x7×x8×x9×x10×x11×x12×x13×x14×x15×x16×x17×x18×x19×x20×x21×x22×x23×x24×x25×x26×x27):x28:=u27 (f t.1) t.2
abbrev u29 {x0 x1 x2 x3 x4 x5 x6 x7 x8 x9 x10 x11 x12 x13 x14 x15 x16 x17 x18 x19 x20 x21 x22 x23 x24 x25 x26 x27 x28 x29:Type}(f:x0->x1->x2->x3->x4->x5->x6->x7->x8->x9->x10->x11->x12->x13->x14->x15->x16->x17->x18->x19->x20->x21->x22->x23->x24->x25->x26->x27->x28->x29)(t:x0×x1×x2×x3×x4×x5×x6×x7×x8×x9×x10×x11×x12×x13×x14×x15×x16×x17×x18×x19×x20×x21×x22×x23×x24×x25×x26×x27×x28):x29:=u28 (f t.1) t.2
abbrev u30 {x0 x1 x2 x3 x4 x5 x6 x7 x8 x9 x10 x11 x12 x13 x14 x15 x16 x17 x18 x19 x20 x21 x22 x23 x24 x25 x26 x27 x28 x29 x30:Type}(f:x0->x1->x2->x3->x4->x5->x6->x7->x8->x9->x10->x11->x12->x13->x14->x15->x16->x17->x18->x19->x20->x21->x22->x23->x24->x25->x26->x27->x28->x29->x30)(t:x0×x1×x2×x3×x4×x5×x6×x7×x8×x9×x10×x11×x12×x13×x14×x15×x16×x17×x18×x19×x20×x21×x22×x23×x24×x25×x26×x27×x28×x29):x30:=u29 (f t.1) t.2
abbrev u31 {x0 x1 x2 x3 x4 x5 x6 x7 x8 x9 x10 x11 x12 x13 x14 x15 x16 x17 x18 x19 x20 x21 x22 x23 x24 x25 x26 x27 x28 x29 x30 x31:Type}(f:x0->x1->x2->x3->x4->x5->x6->x7->x8->x9->x10->x11->x12->x13->x14->x15->x16->x17->x18->x19->x20->x21->x22->x23->x24->x25->x26->x27->x28->x29->x30->x31)(t:x0×x1×x2×x3×x4×x5×x6×x7×x8×x9×x10×x11×x12×x13×x14×x15×x16×x17×x18×x19×x20×x21×x22×x23×x24×x25×x26×x27×x28×x29×x30):x31:=u30 (f t.1) t.2
abbrev u32 {x0 x1 x2 x3 x4 x5 x6 x7 x8 x9 x10 x11 x12 x13 x14 x15 x16 x17 x18 x19 x20 x21 x22 x23 x24 x25 x26 x27 x28 x29 x30 x31 x32:Type}(f:x0->x1->x2->x3->x4->x5->x6->x7->x8->x9->x10->x11->x12->x13->x14->x15->x16->x17->x18->x19->x20->x21->x22->x23->x24->x25->x26->x27->x28->x29->x30->x31->x32)(t:x0×x1×x2×x3×x4×x5×x6×x7×x8×x9×x10×x11×x12×x13×x14×x15×x16×x17×x18×x19×x20×x21×x22×x23×x24×x25×x26×x27×x28×x29×x30×x31):x32:=u31 (f t.1) t.2
abbrev u33 {x0 x1 x2 x3 x4 x5 x6 x7 x8 x9 x10 x11 x12 x13 x14 x15 x16 x17 x18 x19 x20 x21 x22 x23 x24 x25 x26 x27 x28 x29 x30 x31 x32 x33:Type}(f:x0->x1->x2->x3->x4->x5->x6->x7->x8->x9->x10->x11->x12->x13->x14->x15->x16->x17->x18->x19->x20->x21->x22->x23->x24->x25->x26->x27->x28->x29->x30->x31->x32->x33)(t:x0×x1×x2×x3×x4×x5×x6×x7×x8×x9×x10×x11×x12×x13×x14×x15×x16×x17×x18×x19×x20×x21×x22×x23×x24×x25×x26×x27×x28×x29×x30×x31×x32):x33:=u32 (f t.1) t.2
abbrev u34 {x0 x1 x2 x3 x4 x5 x6 x7 x8 x9 x10 x11 x12 x13 x14 x15 x16 x17 x18 x19 x20 x21 x22 x23 x24 x25 x26 x27 x28 x29 x30 x31 x32 x33 x34:Type}(f:x0->x1->x2->x3->x4->x5->x6->x7->x8->x9->x10->x11->x12->x13->x14->x15->x16->x17->x18->x19->x20->x21->x22->x23->x24->x25->x26->x27->x28->x29->x30->x31->x32->x33->x34)(t:x0×x1×x2×x3×x4×x5×x6×x7×x8×x9×x10×x11×x12×x13×x14×x15×x16×x17×x18×x19×x20×x21×x22×x23×x24×x25×x26×x27×x28×x29×x30×x31×x32×x33):x34:=u33 (f t.1) t.2
abbrev u35 {x0 x1 x2 x3 x4 x5 x6 x7 x8 x9 x10 x11 x12 x13 x14 x15 x16 x17 x18 x19 x20 x21 x22 x23 x24 x25 x26 x27 x28 x29 x30 x31 x32 x33 x34 x35:Type}(f:x0->x1->x2->x3->x4->x5->x6->x7->x8->x9->x10->x11->x12->x13->x14->x15->x16->x17->x18->x19->x20->x21->x22->x23->x24->x25->x26->x27->x28->x29->x30->x31->x32->x33->x34->x35)(t:x0×x1×x2×x3×x4×x5×x6×x7×x8×x9×x10×x11×x12×x13×x14×x15×x16×x17×x18×x19×x20×x21×x22×x23×x24×x25×x26×x27×x28×x29×x30×x31×x32×x33×x34):x35:=u34 (f t.1) t.2
abbrev u36 {x0 x1 x2 x3 x4 x5 x6 x7 x8 x9 x10 x11 x12 x13 x14 x15 x16 x17 x18 x19 x20 x21 x22 x23 x24 x25 x26 x27 x28 x29 x30 x31 x32 x33 x34 x35 x36:Type}(f:x0->x1->x2->x3->x4->x5->x6->x7->x8->x9->x10->x11->x12->x13->x14->x15->x16->x17->x18->x19->x20->x21->x22->x23->x24->x25->x26->x27->x28->x29->x30->x31->x32->x33->x34->x35->x36)(t:x0×x1×x2×x3×x4×x5×x6×x7×x8×x9×x10×x11×x12×x13×x14×x15×x16×x17×x18×x19×x20×x21×x22×x23×x24×x25×x26×x27×x28×x29×x30×x31×x32×x33×x34×x35):x36:=u35 (f t.1) t.2
abbrev u37 {x0 x1 x2 x3 x4 x5 x6 x7 x8 x9 x10 x11 x12 x13 x14 x15 x16 x17 x18 x19 x20 x21 x22 x23 x24 x25 x26 x27 x28 x29 x30 x31 x32 x33 x34 x35 x36 x37:Type}(f:x0->x1->x2->x3->x4->x5->x6->x7->x8->x9->x10->x11->x12->x13->x14->x15->x16->x17->x18->x19->x20->x21->x22->x23->x24->x25->x26->x27->x28->x29->x30->x31->x32->x33->x34->x35->x36->x37)(t:x0×x1×x2×x3×x4×x5×x6×x7×x8×x9×x10×x11×x12×x13×x14×x15×x16×x17×x18×x19×x20×x21×x22×x23×x24×x25×x26×x27×x28×x29×x30×x31×x32×x33×x34×x35×x36):x37:=u36 (f t.1) t.2
abbrev u38 {x0 x1 x2 x3 x4 x5 x6 x7 x8 x9 x10 x11 x12 x13 x14 x15 x16 x17 x18 x19 x20 x21 x22 x23 x24 x25 x26 x27 x28 x29 x30 x31 x32 x33 x34 x35 x36 x37 x38:Type}(f:x0->x1->x2->x3->x4->x5->x6->x7->x8->x9->x10->x11->x12->x13->x14->x15->x16->x17->x18->x19->x20->x21->x22->x23->x24->x25->x26->x27->x28->x29->x30->x31->x32->x33->x34->x35->x36->x37->x38)(t:x0×x1×x2×x3×x4×x5×x6×x7×x8×x9×x10×x11×x12×x13×x14×x15×x16×x17×x18×x19×x20×x21×x22×x23×x24×x25×x26×x27×x28×x29×x30×x31×x32×x33×x34×x35×x36×x37):x38:=u37 (f t.1) t.2
abbrev u39 {x0 x1 x2 x3 x4 x5 x6 x7 x8 x9 x10 x11 x12 x13 x14 x15 x16 x17 x18 x19 x20 x21 x22 x23 x24 x25 x26 x27 x28 x29 x30 x31 x32 x33 x34 x35 x36 x37 x38 x39:Type}(f:x0->x1->x2->x3->x4->x5->x6->x7->x8->x9->x10->x11->x12->x13->x14->x15->x16->x17->x18->x19->x20->x21->x22->x23->x24->x25->x26->x27->x28->x29->x30->x31->x32->x33->x34->x35->x36->x37->x38->x39)(t:x0×x1×x2×x3×x4×x5×x6×x7×x8×x9×x10×x11×x12×x13×x14×x15×x16×x17×x18×x19×x20×x21×x22×x23×x24×x25×x26×x27×x28×x29×x30×x31×x32×x33×x34×x35×x36×x37×x38):x39:=u38 (f t.1) t.2
abbrev u40 {x0 x1 x2 x3 x4 x5 x6 x7 x8 x9 x10 x11 x12 x13 x14 x15 x16 x17 x18 x19 x20 x21 x22 x23 x24 x25 x26 x27 x28 x29 x30 x31 x32 x33 x34 x35 x36 x37 x38 x39 x40:Type}(f:x0->x1->x2->x3->x4->x5->x6->x7->x8->x9->x10->x11->x12->x13->x14->x15->x16->x17->x18->x19->x20->x21->x22->x23->x24->x25->x26->x27->x28->x29->x30->x31->x32->x33->x34->x35->x36->x37->x38->x39->x40)(t:x0×x1×x2×x3×x4×x5×x6×x7×x8×x9×x10×x11×x12×x13×x14×x15×x16×x17×x18×x19×x20×x21×x22×x23×x24×x25×x26×x27×x28×x29×x30×x31×x32×x33×x34×x35×x36×x37×x38×x39):x40:=u39 (f t.1) t.2
abbrev u41 {x0 x1 x2 x3 x4 x5 x6 x7 x8 x9 x10 x11 x12 x13 x14 x15 x16 x17 x18 x19 x20 x21 x22 x23 x24 x25 x26 x27 x28 x29 x30 x31 x32 x33 x34 x35 x36 x37 x38 x39 x40 x41:Type}(f:x0->x1->x2->x3->x4->x5->x6->x7->x8->x9->x10->x11->x12->x13->x14->x15->x16->x17->x18->x19->x20->x21->x22->x23->x24->x25->x26->x27->x28->x29->x30->x31->x32->x33->x34->x35->x36->x37->x38->x39->x40->x41)(t:x0×x1×x2×x3×x4×x5×x6×x7×x8×x9×x10×x11×x12×x13×x14×x15×x16×x17×x18×x19×x20×x21×x22×x23×x24×x25×x26×x27×x28×x29×x30×x31×x32×x33×x34×x35×x36×x37×x38×x39×x40):x41:=u40 (f t.1) t.2
abbrev u42 {x0 x1 x2 x3 x4 x5 x6 x7 x8 x9 x10 x11 x12 x13 x14 x15 x16 x17 x18 x19 x20 x21 x22 x23 x24 x25 x26 x27 x28 x29 x30 x31 x32 x33 x34 x35 x36 x37 x38 x39 x40 x41 x42:Type}(f:x0->x1->x2->x3->x4->x5->x6->x7->x8->x9->x10->x11->x12->x13->x14->x15->x16->x17->x18->x19->x20->x21->x22->x23->x24->x25->x26->x27->x28->x29->x30->x31->x32->x33->x34->x35->x36->x37->x38->x39->x40->x41->x42)(t:x0×x1×x2×x3×x4×x5×x6×x7×x8×x9×x10×x11×x12×x13×x14×x15×x16×x17×x18×x19×x20×x21×x22×x23×x24×x25×x26×x27×x28×x29×x30×x31×x32×x33×x34×x35×x36×x37×x38×x39×x40×x41):x42:=u41 (f t.1) t.2
abbrev u43 {x0 x1 x2 x3 x4 x5 x6 x7 x8 x9 x10 x11 x12 x13 x14 x15 x16 x17 x18 x19 x20 x21 x22 x23 x24 x25 x26 x27 x28 x29 x30 x31 x32 x33 x34 x35 x36 x37 x38 x39 x40 x41 x42 x43:Type}(f:x0->x1->x2->x3->x4->x5->x6->x7->x8->x9->x10->x11->x12->x13->x14->x15->x16->x17->x18->x19->x20->x21->x22->x23->x24->x25->x26->x27->x28->x29->x30->x31->x32->x33->x34->x35->x36->x37->x38->x39->x40->x41->x42->x43)(t:x0×x1×x2×x3×x4×x5×x6×x7×x8×x9×x10×x11×x12×x13×x14×x15×x16×x17×x18×x19×x20×x21×x22×x23×x24×x25×x26×x27×x28×x29×x30×x31×x32×x33×x34×x35×x36×x37×x38×x39×x40×x41×x42):x43:=u42 (f t.1) t.2
abbrev u44 {x0 x1 x2 x3 x4 x5 x6 x7 x8 x9 x10 x11 x12 x13 x14 x15 x16 x17 x18 x19 x20 x21 x22 x23 x24 x25 x26 x27 x28 x29 x30 x31 x32 x33 x34 x35 x36 x37 x38 x39 x40 x41 x42 x43 x44:Type}(f:x0->x1->x2->x3->x4->x5->x6->x7->x8->x9->x10->x11->x12->x13->x14->x15->x16->x17->x18->x19->x20->x21->x22->x23->x24->x25->x26->x27->x28->x29->x30->x31->x32->x33->x34->x35->x36->x37->x38->x39->x40->x41->x42->x43->x44)(t:x0×x1×x2×x3×x4×x5×x6×x7×x8×x9×x10×x11×x12×x13×x14×x15×x16×x17×x18×x19×x20×x21×x22×x23×x24×x25×x26×x27×x28×x29×x30×x31×x32×x33×x34×x35×x36×x37×x38×x39×x40×x41×x42×x43):x44:=u43 (f t.1) t.2
abbrev u45 {x0 x1 x2 x3 x4 x5 x6 x7 x8 x9 x10 x11 x12 x13 x14 x15 x16 x17 x18 x19 x20 x21 x22 x23 x24 x25 x26 x27 x28 x29 x30 x31 x32 x33 x34 x35 x36 x37 x38 x39 x40 x41 x42 x43 x44 x45:Type}(f:x0->x1->x2->x3->x4->x5->x6->x7->x8->x9->x10->x11->x12->x13->x14->x15->x16->x17->x18->x19->x20->x21->x22->x23->x24->x25->x26->x27->x28->x29->x30->x31->x32->x33->x34->x35->x36->x37->x38->x39->x40->x41->x42->x43->x44->x45)(t:x0×x1×x2×x3×x4×x5×x6×x7×x8×x9×x10×x11×x12×x13×x14×x15×x16×x17×x18×x19×x20×x21×x22×x23×x24×x25×x26×x27×x28×x29×x30×x31×x32×x33×x34×x35×x36×x37×x38×x39×x40×x41×x42×x43×x44):x45:=u44 (f t.1) t.2
abbrev u46 {x0 x1 x2 x3 x4 x5 x6 x7 x8 x9 x10 x11 x12 x13 x14 x15 x16 x17 x18 x19 x20 x21 x22 x23 x24 x25 x26 x27 x28 x29 x30 x31 x32 x33 x34 x35 x36 x37 x38 x39 x40 x41 x42 x43 x44 x45 x46:Type}(f:x0->x1->x2->x3->x4->x5->x6->x7->x8->x9->x10->x11->x12->x13->x14->x15->x16->x17->x18->x19->x20->x21->x22->x23->x24->x25->x26->x27->x28->x29->x30->x31->x32->x33->x34->x35->x36->x37->x38->x39->x40->x41->x42->x43->x44->x45->x46)(t:x0×x1×x2×x3×x4×x5×x6×x7×x8×x9×x10×x11×x12×x13×x14×x15×x16×x17×x18×x19×x20×x21×x22×x23×x24×x25×x26×x27×x28×x29×x30×x31×x32×x33×x34×x35×x36×x37×x38×x39×x40×x41×x42×x43×x44×x45):x46:=u45 (f t.1) t.2
abbrev u47 {x0 x1 x2 x3 x4 x5 x6 x7 x8 x9 x10 x11 x12 x13 x14 x15 x16 x17 x18 x19 x20 x21 x22 x23 x24 x25 x26 x27 x28 x29 x30 x31 x32 x33 x34 x35 x36 x37 x38 x39 x40 x41 x42 x43 x44 x45 x46 x47:Type}(f:x0->x1->x2->x3->x4->x5->x6->x7->x8->x9->x10->x11->x12->x13->x14->x15->x16->x17->x18->x19->x20->x21->x22->x23->x24->x25->x26->x27->x28->x29->x30->x31->x32->x33->x34->x35->x36->x37->x38->x39->x40->x41->x42->x43->x44->x45->x46->x47)(t:x0×x1×x2×x3×x4×x5×x6×x7×x8×x9×x10×x11×x12×x13×x14×x15×x16×x17×x18×x19×x20×x21×x22×x23×x24×x25×x26×x27×x28×x29×x30×x31×x32×x33×x34×x35×x36×x37×x38×x39×x40×x41×x42×x43×x44×x45×x46):x47:=u46 (f t.1) t.2
abbrev u48 {x0 x1 x2 x3 x4 x5 x6 x7 x8 x9 x10 x11 x12 x13 x14 x15 x16 x17 x18 x19 x20 x21 x22 x23 x24 x25 x26 x27 x28 x29 x30 x31 x32 x33 x34 x35 x36 x37 x38 x39 x40 x41 x42 x43 x44 x45 x46 x47 x48:Type}(f:x0->x1->x2->x3->x4->x5->x6->x7->x8->x9->x10->x11->x12->x13->x14->x15->x16->x17->x18->x19->x20->x21->x22->x23->x24->x25->x26->x27->x28->x29->x30->x31->x32->x33->x34->x35->x36->x37->x38->x39->x40->x41->x42->x43->x44->x45->x46->x47->x48)(t:x0×x1×x2×x3×x4×x5×x6×x7×x8×x9×x10×x11×x12×x13×x14×x15×x16×x17×x18×x19×x20×x21×x22×x23×x24×x25×x26×x27×x28×x29×x30×x31×x32×x33×x34×x35×x36×x37×x38×x39×x40×x41×x42×x43×x44×x45×x46×x47):x48:=u47 (f t.1) t.2
abbrev u49 {x0 x1 x2 x3 x4 x5 x6 x7 x8 x9 x10 x11 x12 x13 x14 x15 x16 x17 x18 x19 x20 x21 x22 x23 x24 x25 x26 x27 x28 x29 x30 x31 x32 x33 x34 x35 x36 x37 x38 x39 x40 x41 x42 x43 x44 x45 x46 x47 x48 x49:Type}(f:x0->x1->x2->x3->x4->x5->x6->x7->x8->x9->x10->x11->x12->x13->x14->x15->x16->x17->x18->x19->x20->x21->x22->x23->x24->x25->x26->x27->x28->x29->x30->x31->x32->x33->x34->x35->x36->x37->x38->x39->x40->x41->x42->x43->x44->x45->x46->x47->x48->x49)(t:x0×x1×x2×x3×x4×x5×x6×x7×x8×x9×x10×x11×x12×x13×x14×x15×x16×x17×x18×x19×x20×x21×x22×x23×x24×x25×x26×x27×x28×x29×x30×x31×x32×x33×x34×x35×x36×x37×x38×x39×x40×x41×x42×x43×x44×x45×x46×x47×x48):x49:=u48 (f t.1) t.2
abbrev u50 {x0 x1 x2 x3 x4 x5 x6 x7 x8 x9 x10 x11 x12 x13 x14 x15 x16 x17 x18 x19 x20 x21 x22 x23 x24 x25 x26 x27 x28 x29 x30 x31 x32 x33 x34 x35 x36 x37 x38 x39 x40 x41 x42 x43 x44 x45 x46 x47 x48 x49 x50:Type}(f:x0->x1->x2->x3->x4->x5->x6->x7->x8->x9->x10->x11->x12->x13->x14->x15->x16->x17->x18->x19->x20->x21->x22->x23->x24->x25->x26->x27->x28->x29->x30->x31->x32->x33->x34->x35->x36->x37->x38->x39->x40->x41->x42->x43->x44->x45->x46->x47->x48->x49->x50)(t:x0×x1×x2×x3×x4×x5×x6×x7×x8×x9×x10×x11×x12×x13×x14×x15×x16×x17×x18×x19×x20×x21×x22×x23×x24×x25×x26×x27×x28×x29×x30×x31×x32×x33×x34×x35×x36×x37×x38×x39×x40×x41×x42×x43×x44×x45×x46×x47×x48×x49):x50:=u49 (f t.1) t.2
abbrev u51 {x0 x1 x2 x3 x4 x5 x6 x7 x8 x9 x10 x11 x12 x13 x14 x15 x16 x17 x18 x19 x20 x21 x22 x23 x24 x25 x26 x27 x28 x29 x30 x31 x32 x33 x34 x35 x36 x37 x38 x39 x40 x41 x42 x43 x44 x45 x46 x47 x48 x49 x50 x51:Type}(f:x0->x1->x2->x3->x4->x5->x6->x7->x8->x9->x10->x11->x12->x13->x14->x15->x16->x17->x18->x19->x20->x21->x22->x23->x24->x25->x26->x27->x28->x29->x30->x31->x32->x33->x34->x35->x36->x37->x38->x39->x40->x41->x42->x43->x44->x45->x46->x47->x48->x49->x50->x51)(t:x0×x1×x2×x3×x4×x5×x6×x7×x8×x9×x10×x11×x12×x13×x14×x15×x16×x17×x18×x19×x20×x21×x22×x23×x24×x25×x26×x27×x28×x29×x30×x31×x32×x33×x34×x35×x36×x37×x38×x39×x40×x41×x42×x43×x44×x45×x46×x47×x48×x49×x50):x51:=u50 (f t.1) t.2
abbrev u52 {x0 x1 x2 x3 x4 x5 x6 x7 x8 x9 x10 x11 x12 x13 x14 x15 x16 x17 x18 x19 x20 x21 x22 x23 x24 x25 x26 x27 x28 x29 x30 x31 x32 x33 x34 x35 x36 x37 x38 x39 x40 x41 x42 x43 x44 x45 x46 x47 x48 x49 x50 x51 x52:Type}(f:x0->x1->x2->x3->x4->x5->x6->x7->x8->x9->x10->x11->x12->x13->x14->x15->x16->x17->x18->x19->x20->x21->x22->x23->x24->x25->x26->x27->x28->x29->x30->x31->x32->x33->x34->x35->x36->x37->x38->x39->x40->x41->x42->x43->x44->x45->x46->x47->x48->x49->x50->x51->x52)(t:x0×x1×x2×x3×x4×x5×x6×x7×x8×x9×x10×x11×x12×x13×x14×x15×x16×x17×x18×x19×x20×x21×x22×x23×x24×x25×x26×x27×x28×x29×x30×x31×x32×x33×x34×x35×x36×x37×x38×x39×x40×x41×x42×x43×x44×x45×x46×x47×x48×x49×x50×x51):x52:=u51 (f t.1) t.2
abbrev u53 {x0 x1 x2 x3 x4 x5 x6 x7 x8 x9 x10 x11 x12 x13 x14 x15 x16 x17 x18 x19 x20 x21 x22 x23 x24 x25 x26 x27 x28 x29 x30 x31 x32 x33 x34 x35 x36 x37 x38 x39 x40 x41 x42 x43 x44 x45 x46 x47 x48 x49 x50 x51 x52 x53:Type}(f:x0->x1->x2->x3->x4->x5->x6->x7->x8->x9->x10->x11->x12->x13->x14->x15->x16->x17->x18->x19->x20->x21->x22->x23->x24->x25->x26->x27->x28->x29->x30->x31->x32->x33->x34->x35->x36->x37->x38->x39->x40->x41->x42->x43->x44->x45->x46->x47->x48->x49->x50->x51->x52->x53)(t:x0×x1×x2×x3×x4×x5×x6×x7×x8×x9×x10×x11×x12×x13×x14×x15×x16×x17×x18×x19×x20×x21×x22×x23×x24×x25×x26×x27×x28×x29×x30×x31×x32×x33×x34×x35×x36×x37×x38×x39×x40×x41×x42×x43×x44×x45×x46×x47×x48×x49×x50×x51×x52):x53:=u52 (f t.1) t.2
abbrev u54 {x0 x1 x2 x3 x4 x5 x6 x7 x8 x9 x10 x11 x12 x13 x14 x15 x16 x17 x18 x19 x20 x21 x22 x23 x24 x25 x26 x27 x28 x29 x30 x31 x32 x33 x34 x35 x36 x37 x38 x39 x40 x41 x42 x43 x44 x45 x46 x47 x48 x49 x50 x51 x52 x53 x54:Type}(f:x0->x1->x2->x3->x4->x5->x6->x7->x8->x9->x10->x11->x12->x13->x14->x15->x16->x17->x18->x19->x20->x21->x22->x23->x24->x25->x26->x27->x28->x29->x30->x31->x32->x33->x34->x35->x36->x37->x38->x39->x40->x41->x42->x43->x44->x45->x46->x47->x48->x49->x50->x51->x52->x53->x54)(t:x0×x1×x2×x3×x4×x5×x6×x7×x8×x9×x10×x11×x12×x13×x14×x15×x16×x17×x18×x19×x20×x21×x22×x23×x24×x25×x26×x27×x28×x29×x30×x31×x32×x33×x34×x35×x36×x37×x38×x39×x40×x41×x42×x43×x44×x45×x46×x47×x48×x49×x50×x51×x52×x53):x54:=u53 (f t.1) t.2
abbrev u55 {x0 x1 x2 x3 x4 x5 x6 x7 x8 x9 x10 x11 x12 x13 x14 x15 x16 x17 x18 x19 x20 x21 x22 x23 x24 x25 x26 x27 x28 x29 x30 x31 x32 x33 x34 x35 x36 x37 x38 x39 x40 x41 x42 x43 x44 x45 x46 x47 x48 x49 x50 x51 x52 x53 x54 x55:Type}(f:x0->x1->x2->x3->x4->x5->x6->x7->x8->x9->x10->x11->x12->x13->x14->x15->x16->x17->x18->x19->x20->x21->x22->x23->x24->x25->x26->x27->x28->x29->x30->x31->x32->x33->x34->x35->x36->x37->x38->x39->x40->x41->x42->x43->x44->x45->x46->x47->x48->x49->x50->x51->x52->x53->x54->x55)(t:x0×x1×x2×x3×x4×x5×x6×x7×x8×x9×x10×x11×x12×x13×x14×x15×x16×x17×x18×x19×x20×x21×x22×x23×x24×x25×x26×x27×x28×x29×x30×x31×x32×x33×x34×x35×x36×x37×x38×x39×x40×x41×x42×x43×x44×x45×x46×x47×x48×x49×x50×x51×x52×x53×x54):x55:=u54 (f t.1) t.2
abbrev u56 {x0 x1 x2 x3 x4 x5 x6 x7 x8 x9 x10 x11 x12 x13 x14 x15 x16 x17 x18 x19 x20 x21 x22 x23 x24 x25 x26 x27 x28 x29 x30 x31 x32 x33 x34 x35 x36 x37 x38 x39 x40 x41 x42 x43 x44 x45 x46 x47 x48 x49 x50 x51 x52 x53 x54 x55 x56:Type}(f:x0->x1->x2->x3->x4->x5->x6->x7->x8->x9->x10->x11->x12->x13->x14->x15->x16->x17->x18->x19->x20->x21->x22->x23->x24->x25->x26->x27->x28->x29->x30->x31->x32->x33->x34->x35->x36->x37->x38->x39->x40->x41->x42->x43->x44->x45->x46->x47->x48->x49->x50->x51->x52->x53->x54->x55->x56)(t:x0×x1×x2×x3×x4×x5×x6×x7×x8×x9×x10×x11×x12×x13×x14×x15×x16×x17×x18×x19×x20×x21×x22×x23×x24×x25×x26×x27×x28×x29×x30×x31×x32×x33×x34×x35×x36×x37×x38×x39×x40×x41×x42×x43×x44×x45×x46×x47×x48×x49×x50×x51×x52×x53×x54×x55):x56:=u55 (f t.1) t.2
abbrev u57 {x0 x1 x2 x3 x4 x5 x6 x7 x8 x9 x10 x11 x12 x13 x14 x15 x16 x17 x18 x19 x20 x21 x22 x23 x24 x25 x26 x27 x28 x29 x30 x31 x32 x33 x34 x35 x36 x37 x38 x39 x40 x41 x42 x43 x44 x45 x46 x47 x48 x49 x50 x51 x52 x53 x54 x55 x56 x57:Type}(f:x0->x1->x2->x3->x4->x5->x6->x7->x8->x9->x10->x11->x12->x13->x14->x15->x16->x17->x18->x19->x20->x21->x22->x23->x24->x25->x26->x27->x28->x29->x30->x31->x32->x33->x34->x35->x36->x37->x38->x39->x40->x41->x42->x43->x44->x45->x46->x47->x48->x49->x50->x51->x52->x53->x54->x55->x56->x57)(t:x0×x1×x2×x3×x4×x5×x6×x7×x8×x9×x10×x11×x12×x13×x14×x15×x16×x17×x18×x19×x20×x21×x22×x23×x24×x25×x26×x27×x28×x29×x30×x31×x32×x33×x34×x35×x36×x37×x38×x39×x40×x41×x42×x43×x44×x45×x46×x47×x48×x49×x50×x51×x52×x53×x54×x55×x56):x57:=u56 (f t.1) t.2
abbrev u58 {x0 x1 x2 x3 x4 x5 x6 x7 x8 x9 x10 x11 x12 x13 x14 x15 x16 x17 x18 x19 x20 x21 x22 x23 x24 x25 x26 x27 x28 x29 x30 x31 x32 x33 x34 x35 x36 x37 x38 x39 x40 x41 x42 x43 x44 x45 x46 x47 x48 x49 x50 x51 x52 x53 x54 x55 x56 x57 x58:Type}(f:x0->x1->x2->x3->x4->x5->x6->x7->x8->x9->x10->x11->x12->x13->x14->x15->x16->x17->x18->x19->x20->x21->x22->x23->x24->x25->x26->x27->x28->x29->x30->x31->x32->x33->x34->x35->x36->x37->x38->x39->x40->x41->x42->x43->x44->x45->x46->x47->x48->x49->x50->x51->x52->x53->x54->x55->x56->x57->x58)(t:x0×x1×x2×x3×x4×x5×x6×x7×x8×x9×x10×x11×x12×x13×x14×x15×x16×x17×x18×x19×x20×x21×x22×x23×x24×x25×x26×x27×x28×x29×x30×x31×x32×x33×x34×x35×x36×x37×x38×x39×x40×x41×x42×x43×x44×x45×x46×x47×x48×x49×x50×x51×x52×x53×x54×x55×x56×x57):x58:=u57 (f t.1) t.2
abbrev u59 {x0 x1 x2 x3 x4 x5 x6 x7 x8 x9 x10 x11 x12 x13 x14 x15 x16 x17 x18 x19 x20 x21 x22 x23 x24 x25 x26 x27 x28 x29 x30 x31 x32 x33 x34 x35 x36 x37 x38 x39 x40 x41 x42 x43 x44 x45 x46 x47 x48 x49 x50 x51 x52 x53 x54 x55 x56 x57 x58 x59:Type}(f:x0->x1->x2->x3->x4->x5->x6->x7->x8->x9->x10->x11->x12->x13->x14->x15->x16->x17->x18->x19->x20->x21->x22->x23->x24->x25->x26->x27->x28->x29->x30->x31->x32->x33->x34->x35->x36->x37->x38->x39->x40->x41->x42->x43->x44->x45->x46->x47->x48->x49->x50->x51->x52->x53->x54->x55->x56->x57->x58->x59)(t:x0×x1×x2×x3×x4×x5×x6×x7×x8×x9×x10×x11×x12×x13×x14×x15×x16×x17×x18×x19×x20×x21×x22×x23×x24×x25×x26×x27×x28×x29×x30×x31×x32×x33×x34×x35×x36×x37×x38×x39×x40×x41×x42×x43×x44×x45×x46×x47×x48×x49×x50×x51×x52×x53×x54×x55×x56×x57×x58):x59:=u58 (f t.1) t.2
abbrev u60 {x0 x1 x2 x3 x4 x5 x6 x7 x8 x9 x10 x11 x12 x13 x14 x15 x16 x17 x18 x19 x20 x21 x22 x23 x24 x25 x26 x27 x28 x29 x30 x31 x32 x33 x34 x35 x36 x37 x38 x39 x40 x41 x42 x43 x44 x45 x46 x47 x48 x49 x50 x51 x52 x53 x54 x55 x56 x57 x58 x59 x60:Type}(f:x0->x1->x2->x3->x4->x5->x6->x7->x8->x9->x10->x11->x12->x13->x14->x15->x16->x17->x18->x19->x20->x21->x22->x23->x24->x25->x26->x27->x28->x29->x30->x31->x32->x33->x34->x35->x36->x37->x38->x39->x40->x41->x42->x43->x44->x45->x46->x47->x48->x49->x50->x51->x52->x53->x54->x55->x56->x57->x58->x59->x60)(t:x0×x1×x2×x3×x4×x5×x6×x7×x8×x9×x10×x11×x12×x13×x14×x15×x16×x17×x18×x19×x20×x21×x22×x23×x24×x25×x26×x27×x28×x29×x30×x31×x32×x33×x34×x35×x36×x37×x38×x39×x40×x41×x42×x43×x44×x45×x46×x47×x48×x49×x50×x51×x52×x53×x54×x55×x56×x57×x58×x59):x60:=u59 (f t.1) t.2
abbrev u61 {x0 x1 x2 x3 x4 x5 x6 x7 x8 x9 x10 x11 x12 x13 x14 x15 x16 x17 x18 x19 x20 x21 x22 x23 x24 x25 x26 x27 x28 x29 x30 x31 x32 x33 x34 x35 x36 x37 x38 x39 x40 x41 x42 x43 x44 x45 x46 x47 x48 x49 x50 x51 x52 x53 x54 x55 x56 x57 x58 x59 x60 x61:Type}(f:x0->x1->x2->x3->x4->x5->x6->x7->x8->x9->x10->x11->x12->x13->x14->x15->x16->x17->x18->x19->x20->x21->x22->x23->x24->x25->x26->x27->x28->x29->x30->x31->x32->x33->x34->x35->x36->x37->x38->x39->x40->x41->x42->x43->x44->x45->x46->x47->x48->x49->x50->x51->x52->x53->x54->x55->x56->x57->x58->x59->x60->x61)(t:x0×x1×x2×x3×x4×x5×x6×x7×x8×x9×x10×x11×x12×x13×x14×x15×x16×x17×x18×x19×x20×x21×x22×x23×x24×x25×x26×x27×x28×x29×x30×x31×x32×x33×x34×x35×x36×x37×x38×x39×x40×x41×x42×x43×x44×x45×x46×x47×x48×x49×x50×x51×x52×x53×x54×x55×x56×x57×x58×x59×x60):x61:=u60 (f t.1) t.2
abbrev u62 {x0 x1 x2 x3 x4 x5 x6 x7 x8 x9 x10 x11 x12 x13 x14 x15 x16 x17 x18 x19 x20 x21 x22 x23 x24 x25 x26 x27 x28 x29 x30 x31 x32 x33 x34 x35 x36 x37 x38 x39 x40 x41 x42 x43 x44 x45 x46 x47 x48 x49 x50 x51 x52 x53 x54 x55 x56 x57 x58 x59 x60 x61 x62:Type}(f:x0->x1->x2->x3->x4->x5->x6->x7->x8->x9->x10->x11->x12->x13->x14->x15->x16->x17->x18->x19->x20->x21->x22->x23->x24->x25->x26->x27->x28->x29->x30->x31->x32->x33->x34->x35->x36->x37->x38->x39->x40->x41->x42->x43->x44->x45->x46->x47->x48->x49->x50->x51->x52->x53->x54->x55->x56->x57->x58->x59->x60->x61->x62)(t:x0×x1×x2×x3×x4×x5×x6×x7×x8×x9×x10×x11×x12×x13×x14×x15×x16×x17×x18×x19×x20×x21×x22×x23×x24×x25×x26×x27×x28×x29×x30×x31×x32×x33×x34×x35×x36×x37×x38×x39×x40×x41×x42×x43×x44×x45×x46×x47×x48×x49×x50×x51×x52×x53×x54×x55×x56×x57×x58×x59×x60×x61):x62:=u61 (f t.1) t.2
abbrev u63 {x0 x1 x2 x3 x4 x5 x6 x7 x8 x9 x10 x11 x12 x13 x14 x15 x16 x17 x18 x19 x20 x21 x22 x23 x24 x25 x26 x27 x28 x29 x30 x31 x32 x33 x34 x35 x36 x37 x38 x39 x40 x41 x42 x43 x44 x45 x46 x47 x48 x49 x50 x51 x52 x53 x54 x55 x56 x57 x58 x59 x60 x61 x62 x63:Type}(f:x0->x1->x2->x3->x4->x5->x6->x7->x8->x9->x10->x11->x12->x13->x14->x15->x16->x17->x18->x19->x20->x21->x22->x23->x24->x25->x26->x27->x28->x29->x30->x31->x32->x33->x34->x35->x36->x37->x38->x39->x40->x41->x42->x43->x44->x45->x46->x47->x48->x49->x50->x51->x52->x53->x54->x55->x56->x57->x58->x59->x60->x61->x62->x63)(t:x0×x1×x2×x3×x4×x5×x6×x7×x8×x9×x10×x11×x12×x13×x14×x15×x16×x17×x18×x19×x20×x21×x22×x23×x24×x25×x26×x27×x28×x29×x30×x31×x32×x33×x34×x35×x36×x37×x38×x39×x40×x41×x42×x43×x44×x45×x46×x47×x48×x49×x50×x51×x52×x53×x54×x55×x56×x57×x58×x59×x60×x61×x62):x63:=u62 (f t.1) t.2
abbrev u64 {x0 x1 x2 x3 x4 x5 x6 x7 x8 x9 x10 x11 x12 x13 x14 x15 x16 x17 x18 x19 x20 x21 x22 x23 x24 x25 x26 x27 x28 x29 x30 x31 x32 x33 x34 x35 x36 x37 x38 x39 x40 x41 x42 x43 x44 x45 x46 x47 x48 x49 x50 x51 x52 x53 x54 x55 x56 x57 x58 x59 x60 x61 x62 x63 x64:Type}(f:x0->x1->x2->x3->x4->x5->x6->x7->x8->x9->x10->x11->x12->x13->x14->x15->x16->x17->x18->x19->x20->x21->x22->x23->x24->x25->x26->x27->x28->x29->x30->x31->x32->x33->x34->x35->x36->x37->x38->x39->x40->x41->x42->x43->x44->x45->x46->x47->x48->x49->x50->x51->x52->x53->x54->x55->x56->x57->x58->x59->x60->x61->x62->x63->x64)(t:x0×x1×x2×x3×x4×x5×x6×x7×x8×x9×x10×x11×x12×x13×x14×x15×x16×x17×x18×x19×x20×x21×x22×x23×x24×x25×x26×x27×x28×x29×x30×x31×x32×x33×x34×x35×x36×x37×x38×x39×x40×x41×x42×x43×x44×x45×x46×x47×x48×x49×x50×x51×x52×x53×x54×x55×x56×x57×x58×x59×x60×x61×x62×x63):x64:=u63 (f t.1) t.2
abbrev u65 {x0 x1 x2 x3 x4 x5 x6 x7 x8 x9 x10 x11 x12 x13 x14 x15 x16 x17 x18 x19 x20 x21 x22 x23 x24 x25 x26 x27 x28 x29 x30 x31 x32 x33 x34 x35 x36 x37 x38 x39 x40 x41 x42 x43 x44 x45 x46 x47 x48 x49 x50 x51 x52 x53 x54 x55 x56 x57 x58 x59 x60 x61 x62 x63 x64 x65:Type}(f:x0->x1->x2->x3->x4->x5->x6->x7->x8->x9->x10->x11->x12->x13->x14->x15->x16->x17->x18->x19->x20->x21->x22->x23->x24->x25->x26->x27->x28->x29->x30->x31->x32->x33->x34->x35->x36->x37->x38->x39->x40->x41->x42->x43->x44->x45->x46->x47->x48->x49->x50->x51->x52->x53->x54->x55->x56->x57->x58->x59->x60->x61->x62->x63->x64->x65)(t:x0×x1×x2×x3×x4×x5×x6×x7×x8×x9×x10×x11×x12×x13×x14×x15×x16×x17×x18×x19×x20×x21×x22×x23×x24×x25×x26×x27×x28×x29×x30×x31×x32×x33×x34×x35×x36×x37×x38×x39×x40×x41×x42×x43×x44×x45×x46×x47×x48×x49×x50×x51×x52×x53×x54×x55×x56×x57×x58×x59×x60×x61×x62×x63×x64):x65:=u64 (f t.1) t.2
abbrev u66 {x0 x1 x2 x3 x4 x5 x6 x7 x8 x9 x10 x11 x12 x13 x14 x15 x16 x17 x18 x19 x20 x21 x22 x23 x24 x25 x26 x27 x28 x29 x30 x31 x32 x33 x34 x35 x36 x37 x38 x39 x40 x41 x42 x43 x44 x45 x46 x47 x48 x49 x50 x51 x52 x53 x54 x55 x56 x57 x58 x59 x60 x61 x62 x63 x64 x65 x66:Type}(f:x0->x1->x2->x3->x4->x5->x6->x7->x8->x9->x10->x11->x12->x13->x14->x15->x16->x17->x18->x19->x20->x21->x22->x23->x24->x25->x26->x27->x28->x29->x30->x31->x32->x33->x34->x35->x36->x37->x38->x39->x40->x41->x42->x43->x44->x45->x46->x47->x48->x49->x50->x51->x52->x53->x54->x55->x56->x57->x58->x59->x60->x61->x62->x63->x64->x65->x66)(t:x0×x1×x2×x3×x4×x5×x6×x7×x8×x9×x10×x11×x12×x13×x14×x15×x16×x17×x18×x19×x20×x21×x22×x23×x24×x25×x26×x27×x28×x29×x30×x31×x32×x33×x34×x35×x36×x37×x38×x39×x40×x41×x42×x43×x44×x45×x46×x47×x48×x49×x50×x51×x52×x53×x54×x55×x56×x57×x58×x59×x60×x61×x62×x63×x64×x65):x66:=u65 (f t.1) t.2
abbrev Rt :=at0 aB
theorem rq {P:Program}{f:FuncId}{tab:List FSum}{vals:List Sk}{objs:List OSk}{outs:List Alt}{run:Tup (SSk.shs ⟨vals,[],objs⟩)->Option (ao4 outs)}(at':AT)(ht:nh P tab)(he: ∀t,bT8 P f ⟨tab,[]⟩ vals objs outs at' t=run t):at0 P ⟨f,vals,objs,outs,run⟩:=dr2 ht he
abbrev NS :Sk:= .nils
set_option maxRecDepth 100000
abbrev aa :Sh:=(.int .i64)
abbrev bh :Sh:=(.int .u64)
abbrev bn :Sh:=(.list bh)
abbrev bv :Sh:=(.list bn)
abbrev bw :Sh:=(.pair aa bh)
abbrev bi :Sh:=(.pair aa bn)
abbrev bx :Sh:=(.list bi)
abbrev bz :Sh:=(.pair aa bw)
abbrev ca :Sh:=(.pair aa (.pair bh aa))
abbrev cb :Sh:=(.pair aa bz)
abbrev bt :Sh:=(.pair aa ca)
abbrev al :Sh:=(.pair aa cb)
abbrev bu :Sh:=(.pair aa bt)
abbrev bs :Sh:=(.list al)
abbrev ba :Sh:=(.pair aa bu)
abbrev p :Sk:=(.full 1)
abbrev w :Sk:=(.full 2)
abbrev ab :Sk:=(.full 4)
abbrev ae :Sk:=(.full 5)
abbrev ac :Sk:=(.full 3)
abbrev g :Sk:=(.ptr 0 0)
abbrev ao :Sk:=(.ptr 6 0)
abbrev av :Sk:=(.ptr 7 0)
abbrev be :Sk:=(.ptr 8 0)
abbrev a :Sk:=(.leaf aa)
abbrev i :Sk:=(.leaf bn)
abbrev h :Sk:=(.leaf bh)
abbrev bl :Sk:=(.leaf bv)
abbrev au :Sk:=(.leaf bx)
abbrev r :Sk:=(.leaf bs)
abbrev o :Sk:=(.leaf .bool)
abbrev j :Sk:=(.cint .i64 0)
abbrev ah :Sk:=(.agg [a,r])
abbrev ax :Sk:=(.agg [a,a,a,a,h])
abbrev aj :Sk:=(.agg [a,i,i,a,r,a,r,a,a])
abbrev bk :Sk:=(.agg [h,h,h,h,h,h,h,h,h,h,h,h,h,h,h,h])
abbrev ap :Sk:=(.agg [a,i,i,a,r,a,r,a,a,a,r,a,r,a,i,a,a,a,a,a,a,a,i,au,a,bl,i,i,h,a,a,a,a,a])
abbrev bq :Sk:=(.tup [ap,a])
abbrev br :Sk:=(.tup [o,ap])
abbrev c :OSk:=(.arr Za bh)
abbrev l :OSk:=(.arr Za aa)
abbrev q :OSk:=(.arr Zb aa)
abbrev b :OSk:=(.arr Zb bh)
abbrev d :OSk:=(.arr Za al)
abbrev af :OSk:=(.cells 1 Za [(.full 8),a])
abbrev ai :OSk:=(.cells 1 Za [(.full 9),a])
abbrev y :OSk:=(.cells 1 Za [a,a,a])
abbrev m :OSk:=(.cells 1 Zb [a,a,a])
abbrev ag :OSk:=(.cells 1 Za [a,a,a,ao])
abbrev aw :OSk:=(.cells 1 Zb [a,a,a,a,p])
abbrev bj :OSk:=(.cells 1 Zb [h,h,h,h,h,h,h,h])
abbrev bb :OSk:=(.cells 1 Zb [a,a,a,a,a,a,a,a])
abbrev k :OSk:=(.cells 1 Zb [a,i,i,a,r,a,r,a,a])
abbrev bm :OSk:=(.cells 1 Zb [h,h,h,h,h,h,h,h,h,h,h,h,h,h,h,h])
abbrev aq :OSk:=(.cells 1 Za [a,a,a,a,a,p,w,a,ac,a,ab,a,a,ae,ao,av,be,a,a,a,a,a,a,a,h])
abbrev ar :OSk:=(.cells 1 Za [a,a,a,a,a,p,w,a,ac,a,ab,a,a,ae,ao, .nilp,av,a,a,a,a,a,a,a,h])
abbrev am :OSk:=(.cells 1 Zb [a,a,a,a,a,p,w,a,ac,a,ab,a,a,ae,ao,av,be,a,a,a,a,a,a,a,h])
abbrev an :OSk:=(.cells 1 Zb [a,a,a,a,a,p,w,a,ac,a,ab,a,a,ae,ao, .nilp,av,a,a,a,a,a,a,a,h])
abbrev bo :OSk:=(.cells 1 Za [a,a,a,a,a,p,w,a,ac,a,ab,a,a,ae, .nilp, .nilp, .nilp,a,a,a,a,a,a,a,h])
abbrev bf :OSk:=(.cells 1 Zb [a,a,a,a,a,w,ac,a,ab,a,ae,a,a,(.full 6),av, .nilp,be,a,a,a,a,a,a,a,h])
abbrev ay :OSk:=(.cells 1 Zb [a,a,a,a,a,ac,ab,a,ae,a,(.full 6),a,a,(.full 7),be, .nilp,(.ptr 9 0),a,a,a,a,a,a,a,h])
abbrev az :OSk:=(.cells 1 Zb [a,a,a,a,a,ac,ab,a,ae,a,(.full 6),a,a,(.full 7),be,(.ptr 9 0),(.ptr 10 0),a,a,a,a,a,a,a,h])
abbrev v :OSk:=(.cells 1 Zb [a,i,i,a,r,a,r,a,a,a,r,a,r,a,i,a,a,a,a,a,a,a,i,au,a,bl,i,i,h,a,a,a,a,a])
abbrev bp :OSk:=(.cells 1 Zb [j,NS,NS,j,NS,j,NS,j,j,j,NS,j,NS,j,NS,j,j,j,j,j,j,j,NS,NS,j,NS,NS,NS,(.cint .u64 0),j,j,j,j,j])
abbrev ad :Alt:=⟨.ret,[],⟨[o],[],[]⟩⟩
abbrev x :Alt:=⟨.ret,[],⟨[a],[],[]⟩⟩
abbrev ak :Alt:=⟨.normal,[66],⟨[o],[],[]⟩⟩
abbrev bc :Alt:=⟨.normal,[13],⟨[a],[k,k,az,m,b,v],[]⟩⟩
abbrev bd :Alt:=⟨.normal,[13],⟨[a],[k,k,ay,m,b,v],[]⟩⟩
def cb1 :FSum:=⟨55,[aj,a],[],[ad],by exact u10 aH4⟩
theorem cd3 :Rt cb1:=rq (.no) (.nil _) λ_=>by kernel_rfl
def cn9 :FSum:=⟨249,[r],[],[ad],xi⟩
theorem aR6 :Rt cn9:=rq ((.n .no (.n .no (.n (.n .no (.n (.lp [] ⟨.normal,[4,3],⟨[a,a],[],[]⟩⟩ [⟨.ret,[2],⟨[o],[],[]⟩⟩,⟨(.exit 0),[3],⟨[a],[],[]⟩⟩] (.n .no (.n (.n (.n .no (.jn [] [] [⟨.normal,[3],⟨[a],[],[]⟩⟩] .no .no)) .no) .no))) .no)) .no)))) (.nil _) λ_=>by kernel_rfl
def cn7 :FSum:=⟨250,[a],[],[⟨.ret,[],⟨[(.agg [o,o,o,o])],[],[]⟩⟩],jj⟩
theorem ag8 :Rt cn7:=rq ((.n .no (.jn [0] [] [⟨.ret,[],⟨[],[(.cells 1 Zb [o,o,o,o])],[]⟩⟩,⟨.normal,[],⟨[],[(.cells 1 Zb [o,o,o,o])],[]⟩⟩] .no .no))) (.nil _) λ_=>by kernel_rfl
def cb6 :FSum:=⟨323,[ax],[],[ad],by exact u5 al2⟩
theorem cd6 :Rt cb6:=rq ((.n .no (.n .no (.n .no (.n .no (.n (.n .no (.n (.lp [] ⟨.normal,[5],⟨[a],[],[]⟩⟩ [⟨.ret,[2],⟨[o],[],[]⟩⟩,⟨(.exit 0),[],⟨[],[],[]⟩⟩] .no) .no)) .no)))))) (.cons ag8 (.nil _)) λ_=>by kernel_rfl
def co3 :FSum:=⟨283,[ah],[],[ad],by exact u2 au1⟩
theorem cs0 :Rt co3:=rq ((.n .no (.n .no (.n (.n .no (.n (.lp [] ⟨.normal,[3],⟨[a],[],[]⟩⟩ [⟨.ret,[2],⟨[o],[],[]⟩⟩,⟨(.exit 0),[],⟨[],[],[]⟩⟩] .no) .no)) .no)))) (.cons aR6 (.cons cd6 (.nil _))) λ_=>by kernel_rfl
def bt0 :FSum:=⟨284,[ah],[],[ad],by exact u2 wq⟩
theorem bu1 :Rt bt0:=rq ((.n .no (.n .no (.n (.n .no (.n (.lp [] ⟨.normal,[3],⟨[a],[],[]⟩⟩ [⟨.ret,[2],⟨[o],[],[]⟩⟩,⟨(.exit 0),[],⟨[],[],[]⟩⟩] .no) .no)) .no)))) (.cons ag8 (.nil _)) λ_=>by kernel_rfl
def bO8 :FSum:=⟨324,[r,a],[],[x],by exact u2 af4⟩
theorem bQ5 :Rt bO8:=rq ((.n .no (.n .no (.n (.n .no (.n (.lp [] ⟨.normal,[6,5],⟨[a,a],[],[]⟩⟩ [⟨(.exit 0),[5],⟨[a],[],[]⟩⟩] .no) .no)) .no)))) (.nil _) λ_=>by kernel_rfl
def cn8 :FSum:=⟨285,[r],[],[⟨.ret,[],⟨[(.tup [a,a])],[],[]⟩⟩],at9⟩
theorem cr7 :Rt cn8:=rq ((.n .no (.n .no (.n .no (.n (.n .no (.n (.lp [] ⟨.normal,[5,4],⟨[a,a],[],[]⟩⟩ [⟨(.exit 0),[4],⟨[a],[],[]⟩⟩] .no) .no)) .no))))) (.cons aR6 (.cons bQ5 (.nil _))) λ_=>by kernel_rfl
def cb7 :FSum:=⟨195,[r],[],[⟨.ret,[],⟨[(.tup [(.full 0),a])],[],[q]⟩⟩],ng⟩
theorem al8 :Rt cb7:=rq ((.n .no (.n .no (.n .no (.n (.n .no (.n (.lp [] ⟨.normal,[5,4],⟨[a,p],[],[q]⟩⟩ [⟨(.exit 0),[4],⟨[p],[],[q]⟩⟩] .no) .no)) (.n (.n .no (.n (.lp [1] ⟨.normal,[6],⟨[a],[q],[]⟩⟩ [⟨(.exit 2),[],⟨[],[q],[]⟩⟩] (.n .no (.n (.n (.n .no (.n .no (.n .no (.n (.n (.lp [] ⟨.normal,[7,8],⟨[a,a],[],[]⟩⟩ [⟨(.exit 4),[8],⟨[a],[],[]⟩⟩] .no) .no) .no)))) .no) .no))) .no)) .no)))))) (.cons aR6 (.nil _)) λ_=>by kernel_rfl
def bA1 (n:Nat):FSum:=⟨197,[r,(.leaf (.list aa)),a,a],[],[x],λt=>(dn n).1 t.1 t.2.1 t.2.2.1 t.2.2.2⟩
def bK0 (n:Nat):FSum:=⟨196,[r,(.leaf (.list aa)),a],[],[x],λt=>(dn n).2 t.1 t.2.1 t.2.2⟩
theorem vc : ∀n,at0 aB (bA1 n)/\at0 aB (bK0 n)
 |0=>⟨qj (λt=>rfl),qj (λt=>rfl)⟩
 |n+1=>⟨rq ((.n .no (.n .no (.n (.n .no (.n (.lp [] ⟨.normal,[10,9],⟨[a,a],[],[]⟩⟩ [⟨.ret,[8],⟨[(.cint .i64 65537)],[],[]⟩⟩,⟨(.exit 0),[9],⟨[a],[],[]⟩⟩] .no) .no)) .no)))) (.cons (vc n).2 (.cons ag8 (.nil _))) (λ_=>by kernel_rfl),rq (.no) (.cons (vc n).1 (.nil _)) (λ_=>by kernel_rfl)⟩
def bP0 :FSum:=⟨197,[r,(.leaf (.list aa)),a,a],[],[x],by exact u4 ul⟩
theorem bQ6 :Rt bP0:=(vc 400).1
def cb8 :FSum:=⟨196,[r,(.leaf (.list aa)),a],[],[x],by exact u3 te⟩
theorem bm0 :Rt cb8:=(vc 400).2
def bO9 :FSum:=⟨124,[r],[],[⟨.ret,[],⟨[(.tup [a,a])],[],[]⟩⟩],pu⟩
theorem aA0 :Rt bO9:=rq ((.n .no (.n .no (.n .no (.n (.n .no (.n (.lp [] ⟨.normal,[6],⟨[a],[],[]⟩⟩ [⟨.ret,[2,3],⟨[j,(.cint .i64 9)],[],[]⟩⟩,⟨(.exit 0),[],⟨[],[],[]⟩⟩] .no) .no)) .no))))) (.cons al8 (.cons bm0 (.cons bQ6 (.nil _)))) λ_=>by kernel_rfl
def co1 :FSum:=⟨248,[ah,a],[],[x],by exact u3 xl⟩
theorem bu0 :Rt co1:=rq (.no) (.cons cs0 (.cons bu1 (.cons cr7 (.cons aA0 (.nil _))))) λ_=>by kernel_rfl
def co2 :FSum:=⟨193,[ah,ah],[],[x],by exact u4 au0⟩
theorem cr9 :Rt co2:=rq ((.n .no (.n (.n .no (.n (.lp [] ⟨.normal,[5],⟨[a],[],[]⟩⟩ [⟨.ret,[4],⟨[a],[],[]⟩⟩,⟨(.exit 0),[],⟨[],[],[]⟩⟩] .no) .no)) .no))) (.cons bu0 (.nil _)) λ_=>by kernel_rfl
def co0 :FSum:=⟨194,[ah,ah,a,a],[],[x],by exact u6 xk⟩
theorem cr8 :Rt co0:=rq (.no) (.nil _) λ_=>by kernel_rfl
def cc5 :FSum:=⟨123,[aj],[],[x],by exact u9 zc⟩
theorem bm3 :Rt cc5:=rq (.no) (.cons cr9 (.cons cr8 (.nil _))) λ_=>by kernel_rfl
def cM9 :FSum:=⟨56,[aj],[],[⟨.ret,[],⟨[(.tup [a,a])],[],[]⟩⟩],by exact u9 uR⟩
theorem aA2 :Rt cM9:=rq (.no) (.cons bm3 (.cons aA0 (.nil _))) λ_=>by kernel_rfl
def cb2 :FSum:=⟨10,[aj],[],[ad],by exact u9 li⟩
theorem cd4 :Rt cb2:=rq (.no) (.cons cd3 (.cons aA2 (.nil _))) λ_=>by kernel_rfl
def cb0 :FSum:=⟨286,[o,a],[],[x],by exact u2 pi⟩
theorem aI8 :Rt cb0:=rq (.no) (.nil _) λ_=>by kernel_rfl
def ba6 :FSum:=⟨251,[aj],[],[x],by exact u9 nr⟩
theorem bc0 :Rt ba6:=rq (.no) (.cons aI8 (.nil _)) λ_=>by kernel_rfl
def cn3 :FSum:=⟨327,[r],[],[⟨.ret,[],⟨[(.tup [(.full 0),a])],[],[q]⟩⟩],rz⟩
theorem aR4 :Rt cn3:=jm (ins:=[⟨337,ir aB 337 ⟨[],[⟨338,ir aB 338 ⟨[],[]⟩ .no⟩]⟩ (.n .no (.n .no (.n .no (.n .no (.n (.n .no (.n (.lp [1,3] ⟨.normal,[11,5,6],⟨[a,ab,o],[q,(.cells 1 Zb [ae])],[q,q]⟩⟩ [⟨(.exit 0),[6,5],⟨[o,ab],[q,(.cells 1 Zb [ae])],[q,q]⟩⟩] (.n .no (.n .no (.n (.n (.n .no (.jn [] [4] [⟨(.exit 0),[6,5],⟨[o,(.full 7)],[],[q]⟩⟩,⟨.normal,[5,6],⟨[(.full 7),o],[],[q]⟩⟩] (.n (.jn [] [] [⟨.normal,[16],⟨[o],[],[]⟩⟩] .no .no) .no) .no)) .no) .no)))) .no)) .no)))))⟩]) (at':= .no) (.nil _) (cg.cons (dy (.nil _) (cg.cons (dy (.nil _) (cg.nil _)) (cg.nil _))) (cg.nil _)) λ_=>by kernel_rfl
def cm7 :FSum:=⟨326,[o,a],[],[x],by exact u2 kf⟩
theorem av4 :Rt cm7:=rq (.no) (.nil _) λ_=>by kernel_rfl
def cA6 :FSum:=⟨339,[a],[],[⟨.ret,[],⟨[(.agg [o,o,o,o])],[],[]⟩⟩],ab5⟩
theorem bG1 :Rt cA6:=rq ((.n .no (.n (.n .no (.n (.jn [] [] [⟨.normal,[4],⟨[o],[],[]⟩⟩] .no (.n .no (.jn [] [] [⟨.normal,[9],⟨[o],[],[]⟩⟩] .no .no))) .no)) .no))) (.nil _) λ_=>by kernel_rfl
def bO5 :FSum:=⟨362,[a],[],[ad],ay3⟩
theorem bQ3 :Rt bO5:=rq (.no) (.nil _) λ_=>by kernel_rfl
def bs9 :FSum:=⟨363,[a,o],[],[ad],by exact u2 ob⟩
theorem bt7 :Rt bs9:=rq (.no) (.nil _) λ_=>by kernel_rfl
def bO4 :FSum:=⟨354,[ax],[],[ad],by exact u5 af1⟩
theorem bQ2 :Rt bO4:=rq (.no) (.cons bG1 (.cons bQ3 (.cons bt7 (.nil _)))) λ_=>by kernel_rfl
def aO2 :FSum:=⟨353,[ax],[],[ad],by exact u5 uH⟩
theorem aQ0 :Rt aO2:=rq (.no) (.cons bQ2 (.nil _)) λ_=>by kernel_rfl
def ag2 :FSum:=⟨364,[r,(.fn 353 [] [])],[],[x],ly⟩
theorem ah1 :Rt ag2:=rq ((.n .no (.n (.n .no (.n (.lp [] ⟨.normal,[8],⟨[a],[],[]⟩⟩ [⟨.ret,[4],⟨[a],[],[]⟩⟩,⟨(.exit 0),[],⟨[],[],[]⟩⟩] .no) .no)) .no))) (.cons aQ0 (.nil _)) λ_=>by kernel_rfl
def ze :FSum:=⟨355,[r,(.fn 353 [] [])],[],[ad],ke⟩
theorem zi :Rt ze:=rq (.no) (.cons ah1 (.nil _)) λ_=>by kernel_rfl
def wN :FSum:=⟨344,[ah],[],[x],by exact u2 kr⟩
theorem an7 :Rt wN:=rq (.no) (.cons aR4 (.cons av4 (.cons zi (.nil _)))) λ_=>by kernel_rfl
def aI4 :FSum:=⟨365,[(.full 0)],[q],[⟨.ret,[],⟨[(.tup [])],[q],[]⟩⟩],de⟩
theorem aJ1 :Rt aI4:=rq ((.n .no (.n (.lp [0] ⟨.normal,[2,3],⟨[a,a],[q],[]⟩⟩ [⟨(.exit 0),[],⟨[],[q],[]⟩⟩] .no) .no))) (.nil _) λ_=>by kernel_rfl
def bO3 :FSum:=⟨357,[ax],[],[⟨.ret,[],⟨[(.full 0)],[],[q]⟩⟩],by exact u5 af0⟩
theorem bQ1 :Rt bO3:=rq ((.n .no (.n .no (.jn [] [] [⟨.normal,[3],⟨[p],[],[q]⟩⟩] (.n .no (.n (.jn [] [] [⟨.normal,[3],⟨[p],[],[q]⟩⟩,⟨(.exit 0),[3],⟨[NS],[],[]⟩⟩] (.n (.jn [] [] [⟨.normal,[],⟨[],[],[]⟩⟩,⟨(.exit 2),[],⟨[],[],[]⟩⟩,⟨(.exit 0),[],⟨[],[],[]⟩⟩] .no .no) .no) .no) .no)) .no)))) (.cons aJ1 (.nil _)) λ_=>by kernel_rfl
def bJ9 :FSum:=⟨330,[ax],[],[⟨.ret,[],⟨[(.tup [a,o])],[],[]⟩⟩],by exact u5 oi⟩
theorem aV3 :Rt bJ9:=rq (.no) (.cons bG1 (.nil _)) λ_=>by kernel_rfl
def an2 :FSum:=⟨358,[a,g],[(.cells 1 Za [a,r])],[ad],by exact u3 ni⟩
theorem an8 :Rt an2:=rq (.no) (.nil _) λ_=>by kernel_rfl
def az2 :FSum:=⟨222,[(.leaf (.list aa)),(.fn 358 [] [g])],[(.cells 1 Za [a,r])],[x],by exact u3 px⟩
theorem aA3 :Rt az2:=rq ((.n .no (.n (.n .no (.n (.lp [] ⟨.normal,[8],⟨[a],[],[]⟩⟩ [⟨.ret,[4],⟨[a],[],[]⟩⟩,⟨(.exit 0),[],⟨[],[],[]⟩⟩] .no) .no)) .no))) (.cons an8 (.nil _)) λ_=>by kernel_rfl
def an5 :FSum:=⟨170,[(.leaf (.list aa)),(.fn 358 [] [g])],[(.cells 1 Za [a,r])],[ad],by exact u3 ie⟩
theorem ao3 :Rt an5:=rq (.no) (.cons aA3 (.nil _)) λ_=>by kernel_rfl
def av3 :FSum:=⟨356,[ax,g],[(.cells 1 Za [a,r])],[ad],by exact u7 lb⟩
theorem av5 :Rt av3:=rq ((.n .no (.n .no (.jn [] [2] [⟨.normal,[4],⟨[ac],[],[q]⟩⟩] .no .no)))) (.cons bQ1 (.cons aV3 (.cons ao3 (.nil _)))) λ_=>by kernel_rfl
def aa8 :FSum:=⟨364,[r,(.fn 356 [] [g])],[(.cells 1 Za [a,r])],[x],by exact u3 kl⟩
theorem ab0 :Rt aa8:=rq ((.n .no (.n (.n .no (.n (.lp [] ⟨.normal,[8],⟨[a],[],[]⟩⟩ [⟨.ret,[4],⟨[a],[],[]⟩⟩,⟨(.exit 0),[],⟨[],[],[]⟩⟩] .no) .no)) .no))) (.cons av5 (.nil _)) λ_=>by kernel_rfl
def xw :FSum:=⟨355,[r,(.fn 356 [] [g])],[(.cells 1 Za [a,r])],[ad],by exact u3 jl⟩
theorem xy :Rt xw:=rq (.no) (.cons ab0 (.nil _)) λ_=>by kernel_rfl
def rj :FSum:=⟨345,[ah],[],[x],by exact u2 ik⟩
theorem yf :Rt rj:=rq (.no) (.cons av4 (.cons xy (.nil _))) λ_=>by kernel_rfl
def cA5 :FSum:=⟨359,[r],[],[⟨.ret,[],⟨[(.tup [a,a])],[],[]⟩⟩],aE8⟩
theorem cC0 :Rt cA5:=jm (ins:=[⟨337,ir aB 337 ⟨[],[⟨366,ir aB 366 ⟨[],[]⟩ .no⟩]⟩ (.n .no (.n .no (.n .no (.n .no (.n (.n .no (.n (.lp [1] ⟨.normal,[11,5,6],⟨[a,w,o],[(.cells 1 Zb [a])],[q]⟩⟩ [⟨(.exit 0),[6,5],⟨[o,w],[(.cells 1 Zb [a])],[q]⟩⟩] (.n .no (.n .no (.n (.n (.n .no (.jn [] [2] [⟨(.exit 0),[6,5],⟨[o,ab],[],[q]⟩⟩,⟨.normal,[5,6],⟨[ab,o],[],[q]⟩⟩] (.n (.jn [] [] [⟨.normal,[16],⟨[o],[],[]⟩⟩] .no .no) .no) .no)) .no) .no)))) .no)) .no)))))⟩]) (at':= .no) (.nil _) (cg.cons (dy (.nil _) (cg.cons (dy (.nil _) (cg.nil _)) (cg.nil _))) (cg.nil _)) λ_=>by kernel_rfl
def wc :FSum:=⟨346,[ah],[],[x],by exact u2 jw⟩
theorem aj3 :Rt wc:=rq (.no) (.cons cC0 (.cons av4 (.nil _))) λ_=>by kernel_rfl
def cq7 :FSum:=⟨328,[a,h],[],[⟨.ret,[],⟨[(.tup [a,o])],[],[]⟩⟩],by exact u2 ag1⟩
theorem ct6 :Rt cq7:=rq (.no) (.nil _) λ_=>by kernel_rfl
def cN3 :FSum:=⟨329,[(.leaf (.list aa))],[],[x],ay7⟩
theorem cN8 :Rt cN3:=rq ((.n .no (.n .no (.n (.n .no (.n (.lp [] ⟨.normal,[8,3],⟨[a,a],[],[]⟩⟩ [⟨(.exit 0),[3],⟨[a],[],[]⟩⟩] .no) .no)) .no)))) (.nil _) λ_=>by kernel_rfl
def bP6 :FSum:=⟨292,[r],[],[⟨.ret,[],⟨[(.tup [(.full 0),p,a,a])],[],[q,q]⟩⟩],pw⟩
theorem bc3 :Rt bP6:=rq ((.n .no (.n .no (.n (.dr [0,1,3,4,2,6,5,7]) (.n .no (.n .no (.n (.n .no (.n (.lp [1,2] ⟨.normal,[34,8,5],⟨[a,ab,j],[q,q],[(.arr Zb (.pair aa aa))]⟩⟩ [⟨(.exit 0),[5,8],⟨[a,ab],[q,q],[(.arr Zb (.pair aa aa))]⟩⟩] .no) .no)) (.jn [] [] [⟨.normal,[5],⟨[a],[],[]⟩⟩] .no .no)))))))) (.cons aR4 (.cons ct6 (.cons aV3 (.cons cN8 (.nil _))))) λ_=>by kernel_rfl
def bl4 :FSum:=⟨261,[r],[],[⟨.ret,[],⟨[(.tup [a,a])],[],[]⟩⟩],kc⟩
theorem zg :Rt bl4:=rq (.no) (.cons bc3 (.nil _)) λ_=>by kernel_rfl
def uW :FSum:=⟨347,[ah],[],[x],by exact u2 jg⟩
theorem ag3 :Rt uW:=rq (.no) (.cons zg (.nil _)) λ_=>by kernel_rfl
def cm6 :FSum:=⟨287,[ah,ah],[],[x],by exact u4 at7⟩
theorem cr3 :Rt cm6:=jm (ins:=[⟨325,ir aB 325 ⟨[wN,rj,wc,uW],[⟨336,ir aB 336 ⟨[],[]⟩ .no⟩]⟩ (.n .no (.n .no (.n (.n .no (.n (.n .no (.n .no (.n .no .no))) .no)) (.n (.n .no (.n (.n (.n .no (.n .no (.n (.n (.n .no (.n .no (.n (.n .no (.n .no (.n .no .no))) .no))) .no) .no))) (.n (.n .no (.n .no (.n (.n (.n .no (.n .no (.n (.n .no (.n .no (.n .no .no))) .no))) .no) .no))) (.n (.n .no (.n .no (.n (.n (.n .no (.n .no (.n (.n .no (.n .no (.n .no .no))) .no))) .no) .no))) (.n (.n .no (.n .no (.n (.n (.n .no (.n .no (.n (.n .no (.n .no (.n .no .no))) .no))) .no) .no))) (.n .no .no))))) .no)) .no))))⟩]) (at':= .no) (.nil _) (cg.cons (dy (.cons an7 (.cons yf (.cons aj3 (.cons ag3 (.nil _))))) (cg.cons (dy (.nil _) (cg.nil _)) (cg.nil _))) (cg.nil _)) λ_=>by kernel_rfl
def aI3 :FSum:=⟨252,[aj],[],[x],by exact u9 jy⟩
theorem aI9 :Rt aI3:=rq (.no) (.cons cr3 (.nil _)) λ_=>by kernel_rfl
def cm5 :FSum:=⟨288,[ah,ah,a,a],[],[x],by exact u6 ae2⟩
theorem cr2 :Rt cm5:=rq ((.n .no (.jn [] [] [⟨.normal,[9],⟨[o],[],[]⟩⟩] .no .no))) (.cons av4 (.nil _)) λ_=>by kernel_rfl
def ba5 :FSum:=⟨253,[aj],[],[x],by exact u9 nq⟩
theorem bb9 :Rt ba5:=rq (.no) (.cons cr2 (.nil _)) λ_=>by kernel_rfl
def aP3 :FSum:=⟨254,[aj],[],[x],by exact u9 lr⟩
theorem aQ8 :Rt aP3:=rq ((.n .no (.n .no (.jn [] [] [⟨.normal,[3],⟨[a],[],[]⟩⟩] .no .no)))) (.cons aI8 (.nil _)) λ_=>by kernel_rfl
def aP2 :FSum:=⟨255,[aj],[],[x],by exact u9 lq⟩
theorem aQ7 :Rt aP2:=rq (.no) (.cons aI8 (.nil _)) λ_=>by kernel_rfl
def bN8 :FSum:=⟨198,[aj],[],[x],by exact u9 wI⟩
theorem bb8 :Rt bN8:=rq ((.n .no (.n .no (.n (.n .no (.n (.lp [] ⟨.normal,[20],⟨[a],[],[]⟩⟩ [⟨.ret,[2],⟨[a],[],[]⟩⟩,⟨(.exit 0),[],⟨[],[],[]⟩⟩] .no) .no)) .no)))) (.cons bc0 (.cons aI9 (.cons bb9 (.cons aQ8 (.cons aQ7 (.nil _)))))) λ_=>by kernel_rfl
def da8 :FSum:=⟨213,[aj],[],[⟨.ret,[],⟨[(.tup [a,a])],[],[]⟩⟩],by exact u9 pn⟩
theorem xx :Rt da8:=rq (.no) (.cons bb8 (.cons zg (.nil _))) λ_=>by kernel_rfl
def cn4 :FSum:=⟨199,[aj],[],[⟨.ret,[],⟨[(.agg [a,a,a,a,a,a,a,a,a])],[],[]⟩⟩],by exact u9 af3⟩
theorem bt8 :Rt cn4:=rq ((.n .no (.n .no (.n .no (.n .no (.jn [] [] [⟨.normal,[7,8],⟨[a,a],[],[]⟩⟩] .no .no)))))) (.cons xx (.nil _)) λ_=>by kernel_rfl
def cM6 :FSum:=⟨201,[(.agg [a,a,a,a,a,a,a,a,a]),a],[],[⟨.ret,[],⟨[(.full 0)],[],[q]⟩⟩],by exact u10 ay4⟩
theorem bQ4 :Rt cM6:=jm (ins:=[⟨256,ir aB 256 ⟨[],[]⟩ .no⟩]) (at':=(.n .no (.n .no (.n .no (.n .no (.n (.n .no (.n (.lp [1] ⟨.normal,[10,7],⟨[a,w],[(.cells 1 Zb [a])],[q]⟩⟩ [⟨(.exit 0),[7],⟨[w],[(.cells 1 Zb [a])],[q]⟩⟩] .no) .no)) .no)))))) (.nil _) (cg.cons (dy (.nil _) (cg.nil _)) (cg.nil _)) λ_=>by kernel_rfl
def cA8 :FSum:=⟨200,[(.agg [a,a,a,a,a,a,a,a,a]),a],[],[x],by exact u10 am8⟩
theorem cC1 :Rt cA8:=rq (.no) (.cons bQ4 (.nil _)) λ_=>by kernel_rfl
def cA7 :FSum:=⟨125,[aj],[],[⟨.ret,[],⟨[(.tup [(.agg [a,a,a,a]),a])],[],[]⟩⟩],by exact u9 ab6⟩
theorem bG2 :Rt cA7:=rq ((.n .no (.n .no (.n .no (.n .no (.jn [] [] [⟨.normal,[6],⟨[a],[],[]⟩⟩] .no (.n .no (.n .no (.n (.n .no (.n (.lp [3] ⟨.normal,[35],⟨[a],[(.cells 1 Zb [a,a,a,a])],[]⟩⟩ [⟨(.exit 0),[],⟨[],[(.cells 1 Zb [a,a,a,a])],[]⟩⟩] .no) .no)) .no))))))))) (.cons bb8 (.cons bt8 (.cons cC1 (.nil _)))) λ_=>by kernel_rfl
def aq7 :FSum:=⟨126,[.leaf bs],[],aB0 al,iq⟩
theorem ar0 :Rt aq7:=bd0 (es:=5) (bytes:=40) (z:=[(.int .i64 0),(.int .i64 0),(.int .i64 0),(.int .i64 0),(.int .u64 0)]) (s:=al) (by kernel_rfl) (λ_=>by kernel_rfl) (λ_=>by kernel_rfl) (by kernel_rfl)
def ol :FSum:=⟨116,[.leaf bn],[],aB0 bh,cm⟩
theorem fi :Rt ol:=bd0 (es:=1) (bytes:=8) (z:=[(.int .u64 0)]) (s:=bh) (by kernel_rfl) (λ_=>by kernel_rfl) (λ_=>by kernel_rfl) (by kernel_rfl)
def cb3 :FSum:=⟨127,[aj],[],[⟨.ret,[],⟨[(.tup [(.full 0),a])],[],[q]⟩⟩],by exact u9 vt⟩
theorem cd5 :Rt cb3:=rq (.no) (.cons bG2 (.cons bt8 (.cons bQ4 (.nil _)))) λ_=>by kernel_rfl
def ca6 :FSum:=⟨59,[aj],[],[⟨.ret,[],⟨[(.tup [.nilp,a])],[],[]⟩⟩,⟨.ret,[],⟨[(.tup [g,j])],[],[(.cells 1 Zb [a,a,a,a,a,p,w,a,ac,a,ab,a,a,ae, .nilp, .nilp, .nilp,a,j,(.cint .i64 (-1)),j,j,j,j,(.cint .u64 0)]),b,b,(.arr Zb al),(.arr Zb al),q]⟩⟩],by exact u9 td⟩
theorem bl6 :Rt ca6:=rq (.no) (.cons bG2 (.cons ar0 (.cons fi (.cons cd5 (.nil _))))) λ_=>by kernel_rfl
def ca4 :FSum:=⟨128,[a],[],[x],yq⟩
theorem bl5 :Rt ca4:=rq (.no) (.nil _) λ_=>by kernel_rfl
def cA2 :FSum:=⟨60,[a],[],[⟨.ret,[],⟨[(.tup [g,j])],[],[(.cells 1 Zb [p,j]),b]⟩⟩],am5⟩
theorem cB7 :Rt cA2:=rq (.no) (.cons bl5 (.nil _)) λ_=>by kernel_rfl
def bO1 :FSum:=⟨129,[a,a,a],[],[⟨.ret,[],⟨[(.tup [.nilp,(.cint .i64 2)])],[],[]⟩⟩,⟨.ret,[],⟨[(.tup [g,j])],[],[m]⟩⟩],by exact u3 oh⟩
theorem bQ0 :Rt bO1:=rq (.no) (.nil _) λ_=>by kernel_rfl
def cA4 :FSum:=⟨61,[a],[],[⟨.ret,[],⟨[(.tup [g,j])],[],[m]⟩⟩],aE7⟩
theorem cB9 :Rt cA4:=rq (.no) (.cons bQ0 (.nil _)) λ_=>by kernel_rfl
def aP8 :FSum:=⟨130,[g,a,a],[y],[ad],by exact u5 uO⟩
theorem aR3 :Rt aP8:=rq (.no) (.nil _) λ_=>by kernel_rfl
def bj9 :FSum:=⟨131,[g,a],[m],[⟨.ret,[],⟨[(.tup [])],[m],[]⟩⟩],by exact u4 ou⟩
theorem as9 :Rt bj9:=rq (.no) (.nil _) λ_=>by kernel_rfl
def qa :FSum:=⟨62,[g,a],[m],[⟨.ret,[],⟨[a],[m],[]⟩⟩],by exact u4 gr⟩
theorem kn :Rt qa:=rq (.no) (.cons aR3 (.cons as9 (.nil _))) λ_=>by kernel_rfl
def bn0 :FSum:=⟨132,[g],[(.cells 1 Za [p,a]),c],[x],by exact u2 aa6⟩
theorem bn9 :Rt bn0:=rq (.no) (.nil _) λ_=>by kernel_rfl
def ay9 :FSum:=⟨63,[g,a],[(.cells 1 Zb [p,a]),c],[⟨.ret,[],⟨[(.tup [a,a])],[(.cells 1 Zb [p,a])],[]⟩⟩],by exact u3 ei⟩
theorem aa9 :Rt ay9:=rq (.no) (.cons bn9 (.nil _)) λ_=>by kernel_rfl
def aK6 :FSum:=⟨64,[g],[ar,c,c,d,d,l,af,y,c],[ad],by exact u27 i5⟩
theorem ac2 :Rt aK6:=rq (.no) (.nil _) λ_=>by kernel_rfl
def bt1 :FSum:=⟨133,[(.agg [a,a,a])],[],[ad],by exact u3 oe⟩
theorem aF8 :Rt bt1:=rq (.no) (.nil _) λ_=>by kernel_rfl
def az3 :FSum:=⟨134,[(.agg [a,a,a])],[],[x],by exact u3 fy⟩
theorem vd :Rt az3:=rq (.no) (.nil _) λ_=>by kernel_rfl
def yl :FSum:=⟨135,[g,a,i],[(.cells 1 Za [p,a]),b],[⟨.ret,[],⟨[a],[b],[]⟩⟩],by exact u4 gx⟩
theorem lz :Rt yl:=jm (ins:=[⟨202,ir aB 202 ⟨[],[⟨203,ir aB 203 ⟨[],[]⟩ .no⟩]⟩ .no⟩]) (at':= .no) (.nil _) (cg.cons (dy (.nil _) (cg.cons (dy (.nil _) (cg.nil _)) (cg.nil _))) (cg.nil _)) λ_=>by kernel_rfl
def cB5 :FSum:=⟨65,[g,a,a],[(.cells 1 Zb [p,a]),b],[⟨.ret,[],⟨[(.tup [(.ptr 2 0),j])],[(.cells 1 Zb [p,a]),b],[(.cells 1 Zb [a,a,a,g])]⟩⟩],by exact u4 aZ6⟩
theorem cC4 :Rt cB5:=rq (.no) (.cons aF8 (.cons vd (.cons aa9 (.cons lz (.nil _))))) λ_=>by kernel_rfl
def az1 :FSum:=⟨66,[g,a,i],[ar,c,c,d,d,l,af,y,b],[⟨.ret,[],⟨[(.tup [])],[b],[]⟩⟩],by exact u29 ck⟩
theorem mt :Rt az1:=rq (.no) (.cons lz (.nil _)) λ_=>by kernel_rfl
def ba1 :FSum:=⟨66,[g,a,i],[aq,c,c,d,d,l,ai,ag,y,b],[⟨.ret,[],⟨[(.tup [])],[b],[]⟩⟩],by exact u32 cx⟩
theorem i9 :Rt ba1:=rq (.no) (.cons lz (.nil _)) λ_=>by kernel_rfl
def cA3 :FSum:=⟨12,[aj],[],[⟨.ret,[],⟨[(.tup [.nilp,a])],[],[]⟩⟩,⟨.ret,[],⟨[(.tup [g,j])],[],[(.cells 1 Zb [a,a,a,a,a,p,w,a,ac,a,ab,a,a,ae,ao, .nilp,av,a,j,(.cint .i64 (-1)),j,j,j,j,(.cint .u64 0)]),b,b,(.arr Zb al),(.arr Zb al),q,(.cells 1 Zb [(.full 8),a]),m,b]⟩⟩,⟨.ret,[],⟨[(.tup [g,j])],[],[(.cells 1 Zb [a,a,a,a,a,p,w,a,ac,a,ab,a,a,ae,ao,av,be,a,j,(.cint .i64 (-1)),j,j,j,j,(.cint .u64 0)]),b,b,(.arr Zb al),(.arr Zb al),q,(.cells 1 Zb [(.full 9),a]),(.cells 1 Zb [a,a,a,ao]),m,b]⟩⟩],by exact u9 uD⟩
theorem cB8 :Rt cA3:=rq ((.n .no (.n .no (.n .no (.n .no (.n .no (.n .no (.n .no (.jn [1,7,8] [] [⟨.normal,[],⟨[],[(.cells 1 Zb [a,a,a,a,a,w,ac,a,ab,a,ae,a,a,(.full 6),av, .nilp,(.ptr 9 0),a,j,(.cint .i64 (-1)),j,j,j,j,(.cint .u64 0)]),(.cells 1 Zb [(.full 8),a]),b],[]⟩⟩,⟨.normal,[],⟨[],[(.cells 1 Zb [a,a,a,a,a,w,ac,a,ab,a,ae,a,a,(.full 6),av,(.ptr 10 0),(.ptr 9 0),a,j,(.cint .i64 (-1)),j,j,j,j,(.cint .u64 0)]),(.cells 1 Zb [(.full 8),a]),b],[(.cells 1 Zb [a,a,a,av])]⟩⟩] .no .no))))))))) (.cons bl6 (.cons cB7 (.cons cB9 (.cons kn (.cons aa9 (.cons ac2 (.cons cC4 (.cons mt (.cons i9 (.nil _)))))))))) λ_=>by kernel_rfl
def ay8 :FSum:=⟨165,[g,a,a],[(.cells 1 Za [p,a]),c],[⟨.ret,[],⟨[(.tup [w,a])],[],[b]⟩⟩],by exact u4 fq⟩
theorem qb :Rt ay8:=jm (ins:=[⟨202,ir aB 202 ⟨[],[⟨219,ir aB 219 ⟨[ol],[]⟩ .no⟩]⟩ .no⟩]) (at':= .no) (.nil _) (cg.cons (dy (.nil _) (cg.cons (dy (.cons fi (.nil _)) (cg.nil _)) (cg.nil _))) (cg.nil _)) λ_=>by kernel_rfl
def uX :FSum:=⟨95,[g,a],[ar,c,c,d,d,l,af,y,c],[⟨.ret,[],⟨[(.full 9)],[],[b]⟩⟩],by exact u28 fa⟩
theorem mr :Rt uX:=rq (.no) (.cons qb (.nil _)) λ_=>by kernel_rfl
def an4 :FSum:=⟨262,[bl],[],[⟨.ret,[],⟨[(.full 0)],[],[b]⟩⟩],ic⟩
theorem uE :Rt an4:=jm (ins:=[⟨293,ir aB 293 ⟨[],[]⟩ .no⟩]) (at':=(.n .no (.n .no (.n (.n .no (.n (.lp [] ⟨.normal,[11,3],⟨[a,a],[],[]⟩⟩ [⟨(.exit 0),[3],⟨[a],[],[]⟩⟩] .no) .no)) (.n .no (.n (.n .no (.n (.sz 0 (.lp [] ⟨.normal,[27,6],⟨[a,(.full 0)],[],[b]⟩⟩ [⟨(.exit 2),[6],⟨[(.full 0)],[],[b]⟩⟩] .no) (.lp [] ⟨.normal,[27,6],⟨[a,p],[],[b]⟩⟩ [⟨(.exit 2),[6],⟨[p],[],[b]⟩⟩] .no)) .no)) .no)))))) (.nil _) (cg.cons (dy (.nil _) (cg.nil _)) (cg.nil _)) λ_=>by kernel_rfl
def aZ8 :FSum:=⟨214,[g,ah,i,i],[ar,c,c,d,d,l,af,y,c],[⟨.ret,[],⟨[(.full 9)],[],[b]⟩⟩],by exact u31 nj⟩
theorem ao0 :Rt aZ8:=rq (.no) (.cons mr (.cons uE (.nil _))) λ_=>by kernel_rfl
def bJ5 :FSum:=⟨331,[ah],[],[x],by exact u2 zt⟩
theorem bK5 :Rt bJ5:=jm (ins:=[⟨325,ir aB 325 ⟨[wN,rj,wc,uW],[⟨336,ir aB 336 ⟨[],[]⟩ .no⟩]⟩ (.n .no (.n .no (.n (.n .no (.n (.n .no (.n .no .no)) .no)) (.n (.n .no (.n (.n (.n .no (.n .no (.n (.n (.n .no (.n .no (.n (.n .no (.n .no .no)) .no))) .no) .no))) (.n (.n .no (.n .no (.n (.n (.n .no (.n .no (.n (.n .no (.n .no .no)) .no))) .no) .no))) (.n (.n .no (.n .no (.n (.n (.n .no (.n .no (.n (.n .no (.n .no .no)) .no))) .no) .no))) (.n (.n .no (.n .no (.n (.n (.n .no (.n .no (.n (.n .no (.n .no .no)) .no))) .no) .no))) (.n .no .no))))) .no)) .no))))⟩]) (at':= .no) (.nil _) (cg.cons (dy (.cons an7 (.cons yf (.cons aj3 (.cons ag3 (.nil _))))) (cg.cons (dy (.nil _) (cg.nil _)) (cg.nil _))) (cg.nil _)) λ_=>by kernel_rfl
def cq6 :FSum:=⟨332,[r],[],[⟨.ret,[],⟨[(.tup [(.full 0),a])],[],[q]⟩⟩],aO0⟩
theorem ct5 :Rt cq6:=rq (.no) (.cons bc3 (.nil _)) λ_=>by kernel_rfl
def bF7 :FSum:=⟨294,[ah],[],[⟨.ret,[],⟨[(.tup [(.full 0),a])],[],[(.arr Zb ba)]⟩⟩],by exact u2 wH⟩
theorem aF6 :Rt bF7:=rq ((.n .no (.n .no (.n .no (.n .no (.n .no (.n .no (.n (.n .no (.n (.lp [] ⟨.normal,[11,10,9],⟨[a,ac,ab],[],[q,(.arr Zb ba)]⟩⟩ [⟨(.exit 0),[9],⟨[ac],[],[(.arr Zb ba)]⟩⟩] (.n .no (.n (.n (.n .no (.jn [] [3,4] [⟨(.exit 1),[11,10,9],⟨[a,(.full 6),(.full 7)],[],[q,(.arr Zb ba)]⟩⟩,⟨.normal,[9,11,10],⟨[(.full 6),a,(.full 7)],[],[(.arr Zb ba),q]⟩⟩] (.n (.jn [] [] [⟨.normal,[43],⟨[o],[],[]⟩⟩] .no .no) .no) .no)) .no) .no))) .no)) .no)))))))) (.cons bK5 (.cons aR4 (.cons ct5 (.nil _)))) λ_=>by kernel_rfl
def cq9 :FSum:=⟨263,[ah,i,i],[],[⟨.ret,[],⟨[(.tup [(.full 0),a])],[],[(.arr Zb ba)]⟩⟩],by exact u4 aO1⟩
theorem ct7 :Rt cq9:=rq (.no) (.cons aF6 (.cons zg (.nil _))) λ_=>by kernel_rfl
def bO2 :FSum:=⟨295,[ax,h,h],[],[⟨.ret,[],⟨[h],[],[]⟩⟩],by exact u7 wJ⟩
theorem bc2 :Rt bO2:=rq (.no) (.nil _) λ_=>by kernel_rfl
def cB6 :FSum:=⟨264,[(.full 0),p,w],[(.arr Za ba),b,b],[⟨.ret,[],⟨[a],[b,b],[]⟩⟩],by exact u3 aF3⟩
theorem cC5 :Rt cB6:=rq ((.n .no (.n .no (.n .no (.n (.lp [1,2,3] ⟨.normal,[8,10,9],⟨[a,a,a],[b,b,bj],[]⟩⟩ [⟨.ret,[6],⟨[a],[b,b,bj],[]⟩⟩] .no) .no))))) (.cons bc2 (.nil _)) λ_=>by kernel_rfl
def cc9 :FSum:=⟨215,[(.agg [a,(.full 0)]),p,w],[d,b,b],[⟨.ret,[],⟨[(.tup [a,a])],[b,b],[]⟩⟩],by exact u4 tg⟩
theorem al9 :Rt cc9:=rq (.no) (.cons ct7 (.cons cC5 (.nil _))) λ_=>by kernel_rfl
def ba4 :FSum:=⟨162,[g],[an,c,c,d,d,l,af,y,b],[⟨.ret,[],⟨[(.tup [(.full 9),(.full 10)])],[an,b],[b,b]⟩⟩],by exact u27 ru⟩
theorem bb7 :Rt ba4:=rq ((.n .no (.n .no (.n (.dr [0,1,2,3,4,5,6,8,9,10,11,12,15,1013,1016,7,13,1016,14,17,16,18]) .no)))) (.cons xx (.cons mr (.cons ao0 (.cons al9 (.cons mt (.nil _)))))) λ_=>by kernel_rfl
def ba2 :FSum:=⟨163,[g,a],[ar,c,c,d,d,l,af,y,c],[x],by exact u28 np⟩
theorem bb5 :Rt ba2:=rq (.no) (.nil _) λ_=>by kernel_rfl
def bs6 :FSum:=⟨221,[ah,i],[],[⟨.ret,[],⟨[(.full 0)],[],[b]⟩⟩],by exact u3 uK⟩
theorem av6 :Rt bs6:=rq (.no) (.cons fi (.nil _)) λ_=>by kernel_rfl
def aF4 :FSum:=⟨340,[ax,h,h],[],[⟨.ret,[],⟨[(.tup [h,h])],[],[]⟩⟩],by exact u7 sa⟩
theorem aF7 :Rt aF4:=rq (.no) (.nil _) λ_=>by kernel_rfl
def bn6 :FSum:=⟨333,[(.agg [(.full 0),p,w]),ax,a],[b,b,c],[⟨.ret,[],⟨[(.tup [])],[b,b],[]⟩⟩],by exact u9 uV⟩
theorem bo3 :Rt bn6:=rq (.no) (.cons aF7 (.nil _)) λ_=>by kernel_rfl
def bn5 :FSum:=⟨296,[(.agg [(.full 0),p,w]),ac,a],[b,b,c,(.arr Za ba)],[⟨.ret,[],⟨[(.tup [])],[b,b],[]⟩⟩],by exact u5 uT⟩
theorem bo2 :Rt bn5:=rq ((.n .no (.n .no (.n .no (.n (.lp [0,1,5] ⟨.normal,[7,8,2],⟨[a,a,a],[b,b,bj],[]⟩⟩ [⟨.ret,[],⟨[],[b,b,bj],[]⟩⟩] .no) .no))))) (.cons bo3 (.nil _)) λ_=>by kernel_rfl
def cq8 :FSum:=⟨265,[(.agg [a,(.full 0)]),p,w,ac],[d,b,b,c],[⟨.ret,[],⟨[a],[b,b],[]⟩⟩],by exact u5 xu⟩
theorem aS0 :Rt cq8:=rq (.no) (.cons aF6 (.cons zg (.cons bo2 (.nil _)))) λ_=>by kernel_rfl
def bj5 :FSum:=⟨220,[g,(.agg [a,p]),w,ac,ab],[(.cells 1 Zb [a,a,a,a,a,ae,(.full 6),a,(.full 7),a,p,a,a,(.full 8),(.ptr 9 0), .nilp,(.ptr 10 0),a,a,a,a,a,a,a,h]),d,b,b,c,c,c,d,l,(.cells 1 Za [(.full 11),a]),y,b],[⟨.ret,[],⟨[(.tup [])],[(.cells 1 Zb [a,a,a,a,a,ae,(.full 6),a,(.full 7),a,p,a,a,(.full 8),(.ptr 9 0), .nilp,(.ptr 10 0),a,a,a,a,a,a,a,h]),b,b,b],[]⟩⟩],by exact u31 ub⟩
theorem bk6 :Rt bj5:=rq ((.n .no (.n .no (.n .no (.n .no (.n .no (.n .no (.n (.n .no (.n (.lp [13] ⟨.normal,[36],⟨[a],[b],[]⟩⟩ [⟨(.exit 0),[],⟨[],[b],[]⟩⟩] .no) .no)) .no)))))))) (.cons aS0 (.cons mt (.cons mr (.nil _)))) λ_=>by kernel_rfl
def az0 :FSum:=⟨218,[g,i],[an,c,c,d,d,l,af,y,b],[⟨.ret,[],⟨[(.tup [])],[an,b],[]⟩⟩],by exact u28 uI⟩
theorem bo0 :Rt az0:=rq ((.n .no (.n (.dr [0,1,2,3,4,5,6,8,1009,7,10,9,11]) .no))) (.cons xx (.cons ao0 (.cons al9 (.cons mt (.cons av6 (.cons bk6 (.nil _))))))) λ_=>by kernel_rfl
def pz :FSum:=⟨167,[g,a],[m],[⟨.ret,[],⟨[a],[m],[]⟩⟩],by exact u4 fc⟩
theorem mv :Rt pz:=rq (.no) (.cons as9 (.nil _)) λ_=>by kernel_rfl
def bj8 :FSum:=⟨164,[g,a],[an,c,c,d,d,l,af,m,b],[⟨.ret,[],⟨[(.tup [])],[an,m,b],[]⟩⟩],by exact u28 ot⟩
theorem as8 :Rt bj8:=jm (ins:=[⟨216,ir aB 216 ⟨[qa,pz],[⟨217,ir aB 217 ⟨[uX,az0],[]⟩ .no⟩]⟩ .no⟩]) (at':= .no) (.cons xx (.nil _)) (cg.cons (dy (.cons kn (.cons mv (.nil _))) (cg.cons (dy (.cons mr (.cons bo0 (.nil _))) (cg.nil _)) (cg.nil _))) (cg.nil _)) λ_=>by kernel_rfl
def ba0 :FSum:=⟨90,[g,(.agg [a,a])],[an,c,c,d,d,l,af,m,b],[⟨.ret,[],⟨[a],[an,m,b],[]⟩⟩],by exact u29 rr⟩
theorem bb4 :Rt ba0:=jm (ins:=[⟨166,ir aB 166 ⟨[uX,bs6],[⟨220,ir aB 220 ⟨[az1,uX],[⟨265,ir aB 265 ⟨[bF7,bl4],[⟨296,ir aB 296 ⟨[],[⟨333,ir aB 333 ⟨[aF4],[]⟩ .no⟩]⟩ (.n .no (.n .no (.n .no (.n (.lp [10,12,17] ⟨.normal,[7,8,2],⟨[a,a,a],[b,b,bj],[]⟩⟩ [⟨.ret,[],⟨[],[b,b,bj],[]⟩⟩] .no) .no))))⟩]⟩ .no⟩]⟩ (.n .no (.n .no (.n .no (.n .no (.n .no (.n .no (.n (.n .no (.n (.sz 1019 (.lp [18] ⟨.normal,[36],⟨[a],[b],[]⟩⟩ [⟨(.exit 0),[],⟨[],[b],[]⟩⟩] .no) (.lp [16] ⟨.normal,[36],⟨[a],[b],[]⟩⟩ [⟨(.exit 0),[],⟨[],[b],[]⟩⟩] .no)) .no)) .no)))))))⟩]⟩ .no⟩]) (at':=(.n .no (.jn [] [] [⟨.normal,[5],⟨[o],[],[]⟩⟩] .no (.jn [] [] [⟨.ret,[4],⟨[a],[],[]⟩⟩,⟨.normal,[],⟨[],[],[]⟩⟩] (.n (.jn [] [] [⟨.normal,[19],⟨[o],[],[]⟩⟩] .no (.n .no (.jn [] [] [⟨.normal,[32],⟨[o],[],[]⟩⟩] .no .no))) .no) .no)))) (.cons kn (.cons bb7 (.cons bb5 (.cons lz (.cons mt (.cons as8 (.cons qb (.cons mv (.nil _))))))))) (cg.cons (dy (.cons mr (.cons av6 (.nil _))) (cg.cons (dy (.cons mt (.cons mr (.nil _))) (cg.cons (dy (.cons aF6 (.cons zg (.nil _))) (cg.cons (dy (.nil _) (cg.cons (dy (.cons aF7 (.nil _)) (cg.nil _)) (cg.nil _))) (cg.nil _))) (cg.nil _))) (cg.nil _))) (cg.nil _)) λ_=>by kernel_rfl
def bn3 :FSum:=⟨96,[.nilp],[],[⟨.ret,[],⟨[NS],[],[]⟩⟩],λ_=>uS⟩
theorem ab1 :Rt bn3:=rq (.no) (.nil _) λ_=>by kernel_rfl
def bj4 :FSum:=⟨29,[g],[ar,c,c,d,d,l,af,y,c],[⟨.ret,[],⟨[(.agg [a,a,NS])],[],[]⟩⟩],by exact u27 as1⟩
theorem bk5 :Rt bj4:=rq (.no) (.cons ab1 (.nil _)) λ_=>by kernel_rfl
def bO0 :FSum:=⟨169,[a],[],[ad],ae9⟩
theorem bP9 :Rt bO0:=rq (.no) (.nil _) λ_=>by kernel_rfl
def bN9 :FSum:=⟨168,[a,g],[(.cells 1 Za [a])],[ad],by exact u2 nu⟩
theorem bc1 :Rt bN9:=rq (.no) (.nil _) λ_=>by kernel_rfl
def aq8 :FSum:=⟨222,[(.leaf (.list aa)),(.fn 168 [] [g])],[(.cells 1 Za [a])],[x],by exact u2 kj⟩
theorem ar1 :Rt aq8:=rq ((.n .no (.n (.n .no (.n (.lp [] ⟨.normal,[8],⟨[a],[],[]⟩⟩ [⟨.ret,[4],⟨[a],[],[]⟩⟩,⟨(.exit 0),[],⟨[],[],[]⟩⟩] .no) .no)) .no))) (.cons bc1 (.nil _)) λ_=>by kernel_rfl
def ai3 :FSum:=⟨170,[(.leaf (.list aa)),(.fn 168 [] [g])],[(.cells 1 Za [a])],[ad],by exact u2 fm⟩
theorem ai5 :Rt ai3:=rq (.no) (.cons ar1 (.nil _)) λ_=>by kernel_rfl
def aP9 :FSum:=⟨171,[.leaf (.list aa)],[],aB0 aa,lx⟩
theorem ah0 :Rt aP9:=bd0 (es:=1) (bytes:=8) (z:=[(.int .i64 0)]) (s:=aa) (by kernel_rfl) (λ_=>by kernel_rfl) (λ_=>by kernel_rfl) (by kernel_rfl)
def cn2 :FSum:=⟨91,[a,(.agg [a,a,(.leaf (.list aa))])],[],[⟨.ret,[],⟨[(.tup [.nilp,(.cint .i64 2)])],[],[]⟩⟩,⟨.ret,[],⟨[(.tup [g,j])],[],[(.cells 1 Zb [a,a,a,j,p]),q]⟩⟩],by exact u4 pe⟩
theorem aQ9 :Rt cn2:=rq (.no) (.cons bP9 (.cons bc1 (.cons ai5 (.cons ah0 (.nil _))))) λ_=>by kernel_rfl
def bs3 :FSum:=⟨223,[a],[],[ad],ae1⟩
theorem bt2 :Rt bs3:=rq (.no) (.nil _) λ_=>by kernel_rfl
def bN5 :FSum:=⟨172,[(.agg [a,a])],[],[ad],by exact u2 ae0⟩
theorem bP7 :Rt bN5:=rq ((.n .no (.n (.n (.jn [] [] [⟨.normal,[3],⟨[o],[],[]⟩⟩] .no .no) .no) .no))) (.cons bt2 (.nil _)) λ_=>by kernel_rfl
def aK8 :FSum:=⟨173,[g],[(.cells 1 Za [a,a,a,a,p]),l],[⟨.ret,[],⟨[(.agg [.nilf,(.fn 224 [g] []),(.fn 225 [g] []),(.fn 226 [g] []),(.fn 227 [g] []),(.fn 228 [g] []),(.fn 229 [g] []),(.fn 230 [g] [])])],[],[]⟩⟩],by exact u5 uf⟩
theorem aL2 :Rt aK8:=rq (.no) (.nil _) λ_=>by kernel_rfl
def aD7 :FSum:=⟨224,[g,a],[aw,l],[⟨.ret,[],⟨[a],[aw],[]⟩⟩],by exact u6 rf⟩
theorem aE2 :Rt aD7:=rq (.no) (.nil _) λ_=>by kernel_rfl
def aK9 :FSum:=⟨225,[g,a],[(.cells 1 Za [a,a,a,a,p]),q],[⟨.ret,[],⟨[a],[q],[]⟩⟩],by exact u6 ug⟩
theorem aL3 :Rt aK9:=rq (.no) (.nil _) λ_=>by kernel_rfl
def aD8 :FSum:=⟨226,[g,a],[aw,l],[⟨.ret,[],⟨[a],[aw],[]⟩⟩],by exact u6 rh⟩
theorem aE3 :Rt aD8:=rq (.no) (.nil _) λ_=>by kernel_rfl
def aP6 :FSum:=⟨227,[g,a],[(.cells 1 Za [a,a,a,a,p]),q],[⟨.ret,[],⟨[a],[q],[]⟩⟩],by exact u6 uM⟩
theorem aR1 :Rt aP6:=rq (.no) (.nil _) λ_=>by kernel_rfl
def aK7 :FSum:=⟨266,[g,a],[aw,l],[⟨.ret,[],⟨[a],[aw],[]⟩⟩],by exact u6 kt⟩
theorem ac3 :Rt aK7:=rq (.no) (.nil _) λ_=>by kernel_rfl
def aP7 :FSum:=⟨228,[g,a],[aw,l],[⟨.ret,[],⟨[a],[aw],[]⟩⟩],by exact u6 uN⟩
theorem aR2 :Rt aP7:=rq (.no) (.cons ac3 (.nil _)) λ_=>by kernel_rfl
def aP5 :FSum:=⟨229,[g,a],[aw,l],[⟨.ret,[],⟨[a],[aw],[]⟩⟩],by exact u6 uL⟩
theorem aR0 :Rt aP5:=rq (.no) (.cons ac3 (.nil _)) λ_=>by kernel_rfl
def aD9 :FSum:=⟨230,[g,a],[aw,l],[⟨.ret,[],⟨[a],[aw],[]⟩⟩],by exact u6 ri⟩
theorem aE4 :Rt aD9:=rq (.no) (.nil _) λ_=>by kernel_rfl
def ba7 :FSum:=⟨92,[g,(.agg [a,a])],[aw,q],[⟨.ret,[],⟨[a],[aw,q],[]⟩⟩],by exact u7 nv⟩
theorem ao2 :Rt ba7:=rq ((.n .no (.jn [] [] [⟨.ret,[4],⟨[(.cint .i64 2)],[],[]⟩⟩,⟨.normal,[],⟨[],[],[]⟩⟩] (.n (.n .no (.n .no (.jn [] [] [⟨.normal,[8],⟨[o],[],[]⟩⟩] .no .no))) .no) .no))) (.cons bP7 (.cons aL2 (.cons aE2 (.cons aL3 (.cons aE3 (.cons aR1 (.cons aR2 (.cons aR0 (.cons aE4 (.nil _)))))))))) λ_=>by kernel_rfl
def aZ9 :FSum:=⟨93,[g],[ar,c,c,d,d,l,af,y,c],[⟨.ret,[],⟨[(.agg [.nilf,(.fn 174 [g] []),(.fn 175 [g] []),(.fn 176 [g] []),(.fn 177 [g] []),(.fn 164 [g] []),(.fn 178 [g] []),(.fn 179 [g] [])])],[],[]⟩⟩],by exact u27 am6⟩
theorem bb3 :Rt aZ9:=qj (λ_=>rfl)
def bJ7 :FSum:=⟨267,[ah,i],[],[⟨.ret,[],⟨[(.tup [(.full 0),p,a])],[],[(.arr Zb ba),b]⟩⟩],by exact u3 aq4⟩
theorem bK7 :Rt bJ7:=rq (.no) (.cons aF6 (.nil _)) λ_=>by kernel_rfl
def bJ6 :FSum:=⟨269,[a,ax],[],[⟨.ret,[],⟨[(.tup [])],[],[]⟩⟩],by exact u6 aq3⟩
theorem bK6 :Rt bJ6:=rq (.no) (.nil _) λ_=>by kernel_rfl
def bN6 :FSum:=⟨268,[(.full 0),p,a,(.fn 269 [] [])],[(.arr Za ba),b],[⟨.ret,[],⟨[(.tup [])],[b],[]⟩⟩],by exact u3 ae8⟩
theorem bP8 :Rt bN6:=rq ((.n .no (.n .no (.n (.lp [1,2] ⟨.normal,[9,11,10],⟨[a,a,a],[b,bj],[]⟩⟩ [⟨.ret,[],⟨[],[b,bj],[]⟩⟩] .no) .no)))) (.cons bc2 (.cons bK6 (.nil _))) λ_=>by kernel_rfl
def ca7 :FSum:=⟨231,[ah,i],[],[⟨.ret,[],⟨[(.tup [(.full 0),a])],[],[b]⟩⟩],by exact u3 yu⟩
theorem cd1 :Rt ca7:=rq (.no) (.cons bK7 (.cons bP8 (.nil _))) λ_=>by kernel_rfl
def aO5 :FSum:=⟨174,[g,a],[an,c,c,d,d,l,af,y,b],[⟨.ret,[],⟨[(.tup [])],[an,b],[]⟩⟩],by exact u28 ae3⟩
theorem aQ1 :Rt aO5:=qj (λ_=>rfl)
def aP4 :FSum:=⟨94,[g],[(.cells 1 Za [a,a,a,a,p]),l],[⟨.ret,[],⟨[(.agg [a,a,w])],[],[q]⟩⟩],by exact u5 cv⟩
theorem ag7 :Rt aP4:=rq (.no) (.cons ah0 (.nil _)) λ_=>by kernel_rfl
def ba3 :FSum:=⟨175,[g,a],[ar,c,c,d,d,l,af,m,c],[⟨.ret,[],⟨[(.tup [])],[m],[]⟩⟩],by exact u28 am7⟩
theorem bb6 :Rt ba3:=qj (λ_=>rfl)
def aO9 :FSum:=⟨176,[g,a],[ar,c,c,d,d,l,af,y,b],[⟨.ret,[],⟨[(.tup [])],[b],[]⟩⟩],by exact u28 ae6⟩
theorem aQ4 :Rt aO9:=qj (λ_=>rfl)
def bj7 :FSum:=⟨177,[g,a],[ar,c,c,d,d,l,af,m,c],[⟨.ret,[],⟨[(.tup [])],[m],[]⟩⟩],by exact u28 as3⟩
theorem bk8 :Rt bj7:=qj (λ_=>rfl)
def bj6 :FSum:=⟨178,[g,a],[an,c,c,d,d,l,af,m,b],[⟨.ret,[],⟨[(.tup [])],[an,m,b],[]⟩⟩],by exact u28 as2⟩
theorem bk7 :Rt bj6:=qj (λ_=>rfl)
def aP0 :FSum:=⟨179,[g,a],[an,c,c,d,d,l,af,m,b],[⟨.ret,[],⟨[(.tup [])],[an,m,b],[]⟩⟩],by exact u28 ae7⟩
theorem aQ5 :Rt aP0:=qj (λ_=>rfl)
def bs5 :FSum:=⟨26,[g,(.agg [a,a])],[an,c,c,d,d,l,af,m,b],[⟨.ret,[],⟨[a],[an,m,b],[]⟩⟩],by exact u29 wl⟩
theorem bt3 :Rt bs5:=rq (.no) (.cons ac2 (.cons bb4 (.cons bk5 (.cons aQ9 (.cons ao2 (.cons bb3 (.cons aQ1 (.cons ag7 (.cons bb6 (.cons aQ4 (.cons bk8 (.cons as8 (.cons bk7 (.cons aQ5 (.nil _))))))))))))))) λ_=>by kernel_rfl
def aD3 :FSum:=⟨64,[g],[aq,c,c,d,d,l,ai,ag,y,c],[ad],by exact u30 rb⟩
theorem aE0 :Rt aD3:=rq (.no) (.nil _) λ_=>by kernel_rfl
def an3 :FSum:=⟨95,[g,a],[aq,c,c,d,d,l,ai,ag,y,c],[⟨.ret,[],⟨[(.full 10)],[],[b]⟩⟩],by exact u31 fe⟩
theorem ij :Rt an3:=rq (.no) (.cons qb (.nil _)) λ_=>by kernel_rfl
def aO6 :FSum:=⟨214,[g,ah,i,i],[aq,c,c,d,d,l,ai,ag,y,c],[⟨.ret,[],⟨[(.full 10)],[],[b]⟩⟩],by exact u34 jh⟩
theorem vb :Rt aO6:=rq (.no) (.cons ij (.cons uE (.nil _))) λ_=>by kernel_rfl
def uY :FSum:=⟨162,[g],[am,c,c,d,d,l,ai,ag,y,b],[⟨.ret,[],⟨[(.tup [(.full 10),(.full 11)])],[am,b],[b,b]⟩⟩],by exact u30 lj⟩
theorem ag6 :Rt uY:=rq ((.n .no (.n .no (.n (.dr [0,1,2,3,4,5,6,8,9,10,11,12,15,1013,1016,7,13,1016,14,17,16,18]) .no)))) (.cons xx (.cons ij (.cons vb (.cons al9 (.cons i9 (.nil _)))))) λ_=>by kernel_rfl
def aX1 :FSum:=⟨220,[g,(.agg [a,p]),w,ac,ab],[(.cells 1 Zb [a,a,a,a,a,ae,(.full 6),a,(.full 7),a,p,a,a,(.full 8),(.ptr 9 0),(.ptr 10 0),(.ptr 11 0),a,a,a,a,a,a,a,h]),d,b,b,c,c,c,d,l,(.cells 1 Za [(.full 12),a]),(.cells 1 Za [a,a,a,(.ptr 9 0)]),y,b],[⟨.ret,[],⟨[(.tup [])],[(.cells 1 Zb [a,a,a,a,a,ae,(.full 6),a,(.full 7),a,p,a,a,(.full 8),(.ptr 9 0),(.ptr 10 0),(.ptr 11 0),a,a,a,a,a,a,a,h]),b,b,b],[]⟩⟩],by exact u34 qs⟩
theorem aY4 :Rt aX1:=rq ((.n .no (.n .no (.n .no (.n .no (.n .no (.n .no (.n (.n .no (.n (.lp [14] ⟨.normal,[36],⟨[a],[b],[]⟩⟩ [⟨(.exit 0),[],⟨[],[b],[]⟩⟩] .no) .no)) .no)))))))) (.cons aS0 (.cons i9 (.cons ij (.nil _)))) λ_=>by kernel_rfl
def wO :FSum:=⟨218,[g,i],[am,c,c,d,d,l,ai,ag,y,b],[⟨.ret,[],⟨[(.tup [])],[am,b],[]⟩⟩],by exact u31 nk⟩
theorem ao1 :Rt wO:=rq ((.n .no (.n (.dr [0,1,2,3,4,5,6,8,1009,7,10,9,11]) .no))) (.cons xx (.cons vb (.cons al9 (.cons i9 (.cons av6 (.cons aY4 (.nil _))))))) λ_=>by kernel_rfl
def aX5 :FSum:=⟨164,[g,a],[am,c,c,d,d,l,ai,ag,m,b],[⟨.ret,[],⟨[(.tup [])],[am,m,b],[]⟩⟩],by exact u31 qy⟩
theorem aZ0 :Rt aX5:=jm (ins:=[⟨216,ir aB 216 ⟨[qa,pz],[⟨217,ir aB 217 ⟨[an3,wO],[]⟩ .no⟩]⟩ .no⟩]) (at':= .no) (.cons xx (.nil _)) (cg.cons (dy (.cons kn (.cons mv (.nil _))) (cg.cons (dy (.cons ij (.cons ao1 (.nil _))) (cg.nil _)) (cg.nil _))) (cg.nil _)) λ_=>by kernel_rfl
def aO8 :FSum:=⟨90,[g,(.agg [a,a])],[am,c,c,d,d,l,ai,ag,m,b],[⟨.ret,[],⟨[a],[am,m,b],[]⟩⟩],by exact u32 ae5⟩
theorem aQ3 :Rt aO8:=qj (λ_=>rfl)
def uZ :FSum:=⟨181,[(.agg [a,a,a]),a],[],[x],by exact u4 ga⟩
theorem qc :Rt uZ:=rq (.no) (.cons vd (.nil _)) λ_=>by kernel_rfl
def wv :FSum:=⟨180,[g,a],[(.cells 1 Za [p,a]),c],[⟨.ret,[],⟨[(.tup [h,a])],[],[]⟩⟩],by exact u3 iy⟩
theorem su :Rt wv:=jm (ins:=[⟨202,ir aB 202 ⟨[],[⟨219,ir aB 219 ⟨[ol],[]⟩ .no⟩]⟩ .no⟩]) (at':= .no) (.nil _) (cg.cons (dy (.nil _) (cg.cons (dy (.cons fi (.nil _)) (cg.nil _)) (cg.nil _))) (cg.nil _)) λ_=>by kernel_rfl
def ba9 :FSum:=⟨96,[g],[(.cells 1 Za [a,a,a,(.ptr 1 0)]),(.cells 1 Za [w,a]),c],[⟨.ret,[],⟨[ac],[],[q]⟩⟩],by exact u5 ku⟩
theorem wP :Rt ba9:=rq ((.n .no (.n .no (.n .no (.n (.n .no (.n (.lp [] ⟨.normal,[14,3],⟨[a,ac],[],[q]⟩⟩ [⟨(.exit 0),[3],⟨[ac],[],[q]⟩⟩] .no) .no)) .no))))) (.cons qc (.cons su (.nil _))) λ_=>by kernel_rfl
def aW8 :FSum:=⟨29,[g],[aq,c,c,d,d,l,ai,ag,y,c],[⟨.ret,[],⟨[(.agg [a,a,(.full 10)])],[],[q]⟩⟩],by exact u30 vB⟩
theorem aY1 :Rt aW8:=rq (.no) (.cons wP (.nil _)) λ_=>by kernel_rfl
def aO7 :FSum:=⟨93,[g],[aq,c,c,d,d,l,ai,ag,y,c],[⟨.ret,[],⟨[(.agg [.nilf,(.fn 174 [g] []),(.fn 175 [g] []),(.fn 176 [g] []),(.fn 177 [g] []),(.fn 164 [g] []),(.fn 178 [g] []),(.fn 179 [g] [])])],[],[]⟩⟩],by exact u30 uJ⟩
theorem aQ2 :Rt aO7:=rq (.no) (.nil _) λ_=>by kernel_rfl
def aI0 :FSum:=⟨174,[g,a],[am,c,c,d,d,l,ai,ag,y,b],[⟨.ret,[],⟨[(.tup [])],[am,b],[]⟩⟩],by exact u31 mz⟩
theorem aI5 :Rt aI0:=rq ((.n .no (.n (.lp [0,9] ⟨.normal,[8],⟨[a],[am,b],[]⟩⟩ [⟨(.exit 0),[],⟨[],[am,b],[]⟩⟩] (.n .no (.n .no (.n (.n (.n .no (.n (.dr [0,1,2,3,4,5,6,7,8,9,10,11,13,14,15,16,17,18,19,1020,12,20,21,22,23,24,25,26,27]) .no)) .no) .no)))) .no))) (.cons ij (.cons vb (.cons cd1 (.cons i9 (.nil _))))) λ_=>by kernel_rfl
def wy :FSum:=⟨297,[(.agg [a,a,a]),a],[],[ad],by exact u4 od⟩
theorem ah2 :Rt wy:=rq (.no) (.nil _) λ_=>by kernel_rfl
def aX6 :FSum:=⟨232,[g,a,a,i],[(.cells 1 Za [a,a,a,(.ptr 1 0)]),(.cells 1 Za [w,a]),b],[⟨.ret,[],⟨[a],[b],[]⟩⟩],by exact u8 vD⟩
theorem aZ2 :Rt aX6:=jm (ins:=[⟨270,ir aB 270 ⟨[wy,uZ,wv],[⟨271,ir aB 271 ⟨[yl],[]⟩ (.n .no (.n (.n (.jn [] [] [⟨.normal,[8],⟨[o],[],[]⟩⟩] .no .no) .no) .no))⟩]⟩ .no⟩]) (at':= .no) (.nil _) (cg.cons (dy (.cons ah2 (.cons qc (.cons su (.nil _)))) (cg.cons (dy (.cons lz (.nil _)) (cg.nil _)) (cg.nil _))) (cg.nil _)) λ_=>by kernel_rfl
def aP1 :FSum:=⟨175,[g,a],[aq,c,c,d,d,l,ai,ag,m,b],[⟨.ret,[],⟨[(.tup [])],[m,b],[]⟩⟩],by exact u31 pc⟩
theorem aQ6 :Rt aP1:=rq (.no) (.cons kn (.cons ij (.cons aZ2 (.nil _)))) λ_=>by kernel_rfl
def aL0 :FSum:=⟨233,[g,a],[(.cells 1 Za [a,a,a,(.ptr 1 0)]),(.cells 1 Za [w,a]),c],[⟨.ret,[],⟨[(.tup [a,ac,a])],[],[b]⟩⟩],by exact u6 uo⟩
theorem aL5 :Rt aL0:=jm (ins:=[⟨270,ir aB 270 ⟨[wy,uZ,wv],[⟨272,ir aB 272 ⟨[ay8],[]⟩ .no⟩]⟩ .no⟩]) (at':= .no) (.nil _) (cg.cons (dy (.cons ah2 (.cons qc (.cons su (.nil _)))) (cg.cons (dy (.cons qb (.nil _)) (cg.nil _)) (cg.nil _))) (cg.nil _)) λ_=>by kernel_rfl
def aI1 :FSum:=⟨176,[g,a],[aq,c,c,d,d,l,ai,ag,y,b],[⟨.ret,[],⟨[(.tup [])],[b],[]⟩⟩],by exact u31 na⟩
theorem aI6 :Rt aI1:=rq (.no) (.cons aL5 (.cons i9 (.nil _))) λ_=>by kernel_rfl
def ba8 :FSum:=⟨234,[g,a],[(.cells 1 Za [a,a,a,(.ptr 1 0)]),(.cells 1 Za [w,a]),b],[⟨.ret,[],⟨[a],[b],[]⟩⟩],by exact u6 wM⟩
theorem bc4 :Rt ba8:=jm (ins:=[⟨270,ir aB 270 ⟨[wy,uZ,wv],[⟨273,ir aB 273 ⟨[az3,yl],[]⟩ .no⟩]⟩ .no⟩]) (at':= .no) (.nil _) (cg.cons (dy (.cons ah2 (.cons qc (.cons su (.nil _)))) (cg.cons (dy (.cons vd (.cons lz (.nil _))) (cg.nil _)) (cg.nil _))) (cg.nil _)) λ_=>by kernel_rfl
def aX4 :FSum:=⟨177,[g,a],[aq,c,c,d,d,l,ai,ag,m,b],[⟨.ret,[],⟨[(.tup [])],[m,b],[]⟩⟩],by exact u31 qv⟩
theorem aY7 :Rt aX4:=rq (.no) (.cons bc4 (.cons mv (.nil _))) λ_=>by kernel_rfl
def aX2 :FSum:=⟨220,[g,(.agg [a,p]),w,ac,ab],[(.cells 1 Zb [a,a,a,a,a,ae,(.full 6),a,p,a,(.full 7),a,a,(.full 8),(.ptr 9 0),(.ptr 10 0),(.ptr 11 0),a,a,a,a,a,a,a,h]),d,b,b,c,c,c,d,l,(.cells 1 Za [(.full 12),a]),(.cells 1 Za [a,a,a,(.ptr 9 0)]),y,b],[⟨.ret,[],⟨[(.tup [])],[(.cells 1 Zb [a,a,a,a,a,ae,(.full 6),a,p,a,(.full 7),a,a,(.full 8),(.ptr 9 0),(.ptr 10 0),(.ptr 11 0),a,a,a,a,a,a,a,h]),b,b,b],[]⟩⟩],by exact u34 qt⟩
theorem aY5 :Rt aX2:=rq ((.n .no (.n .no (.n .no (.n .no (.n .no (.n .no (.n (.n .no (.n (.lp [14] ⟨.normal,[36],⟨[a],[b],[]⟩⟩ [⟨(.exit 0),[],⟨[],[b],[]⟩⟩] .no) .no)) .no)))))))) (.cons aS0 (.cons i9 (.cons ij (.nil _)))) λ_=>by kernel_rfl
def we :FSum:=⟨166,[g,p,w],[az,b,c,c,c,d,d,l,(.cells 1 Za [(.full 11),a]),(.cells 1 Za [a,a,a,be]),y,b],[⟨.ret,[],⟨[(.tup [])],[az,b,b],[]⟩⟩],by exact u32 mn⟩
theorem aj4 :Rt we:=rq (.no) (.cons ij (.cons av6 (.cons aY5 (.nil _)))) λ_=>by kernel_rfl
def aX3 :FSum:=⟨178,[g,a],[am,c,c,d,d,l,ai,ag,m,b],[⟨.ret,[],⟨[(.tup [])],[am,m,b],[]⟩⟩],by exact u31 qu⟩
theorem aY6 :Rt aX3:=jm (ins:=[⟨216,ir aB 216 ⟨[qa,pz],[⟨235,ir aB 235 ⟨[uY,wO,we],[]⟩ .no⟩]⟩ .no⟩]) (at':= .no) (.cons xx (.nil _)) (cg.cons (dy (.cons kn (.cons mv (.nil _))) (cg.cons (dy (.cons ag6 (.cons ao1 (.cons aj4 (.nil _)))) (cg.nil _)) (cg.nil _))) (cg.nil _)) λ_=>by kernel_rfl
def aI2 :FSum:=⟨179,[g,a],[am,c,c,d,d,l,ai,ag,m,b],[⟨.ret,[],⟨[(.tup [])],[am,m,b],[]⟩⟩],by exact u31 nc⟩
theorem aI7 :Rt aI2:=jm (ins:=[⟨216,ir aB 216 ⟨[qa,pz],[⟨236,ir aB 236 ⟨[uY,we],[]⟩ .no⟩]⟩ .no⟩]) (at':= .no) (.cons xx (.nil _)) (cg.cons (dy (.cons kn (.cons mv (.nil _))) (cg.cons (dy (.cons ag6 (.cons aj4 (.nil _))) (cg.nil _)) (cg.nil _))) (cg.nil _)) λ_=>by kernel_rfl
def bi9 :FSum:=⟨26,[g,(.agg [a,a])],[am,c,c,d,d,l,ai,ag,m,b],[⟨.ret,[],⟨[a],[am,m,b],[]⟩⟩],by exact u32 tz⟩
theorem bk0 :Rt bi9:=rq (.no) (.cons aE0 (.cons aQ3 (.cons aY1 (.cons aQ9 (.cons ao2 (.cons aQ2 (.cons aI5 (.cons ag7 (.cons aQ6 (.cons aI6 (.cons aY7 (.cons aZ0 (.cons aY6 (.cons aI7 (.nil _))))))))))))))) λ_=>by kernel_rfl
def cc6 :FSum:=⟨136,[aj],[],[x],by exact u9 al6⟩
theorem ce0 :Rt cc6:=rq (.no) (.nil _) λ_=>by kernel_rfl
def cq0 :FSum:=⟨137,[aj],[],[x],by exact u9 av0⟩
theorem ct2 :Rt cq0:=rq (.no) (.cons aA2 (.nil _)) λ_=>by kernel_rfl
def cp9 :FSum:=⟨138,[aj],[],[x],by exact u9 au9⟩
theorem ct1 :Rt cp9:=rq (.no) (.cons aA2 (.nil _)) λ_=>by kernel_rfl
def cp8 :FSum:=⟨67,[aj],[],[⟨.ret,[],⟨[(.tup [(.agg [a,a,a,a]),a])],[],[]⟩⟩],by exact u9 xq⟩
theorem aR7 :Rt cp8:=rq ((.n .no (.n .no (.n (.dr [0,2,4,1,3,5,6,7,8]) (.jn [2] [] [⟨.normal,[],⟨[],[(.cells 1 Zb [a,a,a,a])],[]⟩⟩] .no (.n .no (.n (.n (.lp [2] ⟨.normal,[],⟨[],[(.cells 1 Zb [a,a,a,a])],[]⟩⟩ [⟨(.exit 0),[],⟨[],[(.cells 1 Zb [a,a,a,a])],[]⟩⟩] .no) .no) .no))))))) (.cons bm3 (.cons ce0 (.cons ct2 (.cons ct1 (.nil _))))) λ_=>by kernel_rfl
def cB1 :FSum:=⟨68,[a,a],[],[⟨.ret,[],⟨[(.agg [(.full 0),a])],[],[(.arr Zb bi)]⟩⟩],by exact u2 aF2⟩
theorem cC2 :Rt cB1:=rq ((.n .no (.n .no (.n (.n .no (.n (.lp [0,1] ⟨.normal,[6],⟨[a],[(.cells 1 Zb [NS,j]),(.cells 1 Zb [w,a])],[(.arr Zb bi)]⟩⟩ [⟨(.exit 0),[],⟨[],[(.cells 1 Zb [NS,j]),(.cells 1 Zb [w,a])],[(.arr Zb bi)]⟩⟩] .no) .no)) .no)))) (.nil _) λ_=>by kernel_rfl
def cB2 :FSum:=⟨13,[aj],[],[⟨.ret,[],⟨[(.tup [(.agg [a,i,i,a,r,a,r,a,a,a,r,a,r,a,i,a,a,a,a,a,j,a,i,(.full 0),a,NS,p,w,(.cint .u64 0),j,j,j,j,a]),a])],[],[(.arr Zb bi),b,b]⟩⟩],by exact u9 jt⟩
theorem cC3 :Rt cB2:=rq ((.n .no (.n .no (.n .no (.n (.dr [0,1,2,3,4,5,6,7,8,10,11,12,9,13,14,15,16]) .no))))) (.cons aR7 (.cons cC2 (.nil _))) λ_=>by kernel_rfl
def cp3 :FSum:=⟨139,[(.agg [au,a])],[],[⟨.ret,[],⟨[(.full 0)],[],[q]⟩⟩],by exact u2 au6⟩
theorem cs7 :Rt cp3:=rq ((.n .no (.n .no (.n (.n .no (.n (.lp [] ⟨.normal,[4,3],⟨[a,w],[],[q]⟩⟩ [⟨(.exit 0),[3],⟨[w],[],[q]⟩⟩] .no) .no)) .no)))) (.nil _) λ_=>by kernel_rfl
def cq4 :FSum:=⟨69,[ap],[],[⟨.ret,[],⟨[(.agg [a,a,(.full 0)])],[],[q]⟩⟩],by exact u34 av1⟩
theorem ct4 :Rt cq4:=rq (.no) (.cons cs7 (.nil _)) λ_=>by kernel_rfl
def cn6 :FSum:=⟨22,[i,i],[],[ad],by exact u2 se⟩
theorem bt9 :Rt cn6:=rq ((.n .no (.n .no (.n (.n .no (.n (.lp [] ⟨.normal,[5],⟨[a],[],[]⟩⟩ [⟨.ret,[4],⟨[o],[],[]⟩⟩,⟨(.exit 0),[],⟨[],[],[]⟩⟩] .no) .no)) .no)))) (.nil _) λ_=>by kernel_rfl
def bn1 :FSum:=⟨140,[g],[y],[x],by exact u3 pp⟩
theorem az6 :Rt bn1:=rq (.no) (.nil _) λ_=>by kernel_rfl
def bj1 :FSum:=⟨71,[g],[ar,c,c,d,d,l,af,y,c],[x],by exact u27 yj⟩
theorem bk2 :Rt bj1:=rq (.no) (.cons az6 (.nil _)) λ_=>by kernel_rfl
def cp4 :FSum:=⟨141,[(.agg [au,a])],[],[x],by exact u2 au7⟩
theorem cs8 :Rt cp4:=rq ((.n .no (.n .no (.n (.n .no (.n (.lp [] ⟨.normal,[4,3],⟨[a,a],[],[]⟩⟩ [⟨(.exit 0),[3],⟨[a],[],[]⟩⟩] .no) .no)) .no)))) (.nil _) λ_=>by kernel_rfl
def cq2 :FSum:=⟨72,[ap],[],[x],by exact u34 jk⟩
theorem aR8 :Rt cq2:=rq (.no) (.cons cs8 (.nil _)) λ_=>by kernel_rfl
def bn2 :FSum:=⟨142,[g],[y],[x],by exact u3 pq⟩
theorem az7 :Rt bn2:=rq (.no) (.nil _) λ_=>by kernel_rfl
def bj3 :FSum:=⟨73,[g],[ar,c,c,d,d,l,af,y,c],[x],by exact u27 yk⟩
theorem bk4 :Rt bj3:=rq (.no) (.cons az7 (.nil _)) λ_=>by kernel_rfl
def aO4 :FSum:=⟨24,[g],[ar,c,c,d,d,l,af,y,c],[⟨.ret,[],⟨[bk],[],[]⟩⟩],by exact u27 dw⟩
theorem ag5 :Rt aO4:=rq ((.n .no (.n .no (.n .no (.n .no (.n (.n .no (.n (.lp [10] ⟨.normal,[50],⟨[a],[bm],[]⟩⟩ [⟨(.exit 0),[],⟨[],[bm],[]⟩⟩] .no) .no)) .no)))))) (.cons bk2 (.cons bk4 (.nil _))) λ_=>by kernel_rfl
def bK3 :FSum:=⟨20,[ap],[],[⟨.ret,[],⟨[(.agg [h,h,h,h,h,h,h,h,h,h,h,h,(.cint .u64 0),(.cint .u64 0),(.cint .u64 0),(.cint .u64 0)])],[],[]⟩⟩],by exact u34 ki⟩
theorem bL1 :Rt bK3:=rq (.no) (.cons aR8 (.nil _)) λ_=>by kernel_rfl
def bi8 :FSum:=⟨89,[g],[(.cells 1 Za [p,a]),c],[⟨.ret,[],⟨[w],[],[b]⟩⟩],by exact u2 oq⟩
theorem as7 :Rt bi8:=rq (.no) (.cons fi (.nil _)) λ_=>by kernel_rfl
def aZ7 :FSum:=⟨23,[g],[ar,c,c,d,d,l,af,y,c],[⟨.ret,[],⟨[(.full 9)],[],[b]⟩⟩],by exact u27 dp⟩
theorem an9 :Rt aZ7:=rq (.no) (.cons as7 (.nil _)) λ_=>by kernel_rfl
def bP5 :FSum:=⟨86,[aj],[],[⟨.ret,[],⟨[(.tup [(.full 0),a])],[],[q]⟩⟩],by exact u9 wK⟩
theorem bQ8 :Rt bP5:=rq ((.n .no (.n .no (.n .no (.n .no (.n .no (.n (.n .no (.n (.lp [] ⟨.normal,[8,7],⟨[a,ab],[],[q]⟩⟩ [⟨(.exit 0),[7],⟨[ab],[],[q]⟩⟩] .no) .no)) .no))))))) (.cons aR7 (.nil _)) λ_=>by kernel_rfl
def bK1 :FSum:=⟨209,[ah],[],[x],by exact u2 zu⟩
theorem bK9 :Rt bK1:=rq ((.n .no (.n (.n .no (.n (.lp [] ⟨.normal,[3],⟨[a],[],[]⟩⟩ [⟨.ret,[2],⟨[a],[],[]⟩⟩,⟨(.exit 0),[],⟨[],[],[]⟩⟩] .no) .no)) .no))) (.cons bu0 (.nil _)) λ_=>by kernel_rfl
def cb9 :FSum:=⟨259,[r],[],[⟨.ret,[],⟨[(.tup [(.full 0),a])],[],[q]⟩⟩],al3⟩
theorem cd7 :Rt cb9:=rq ((.n .no (.n .no (.n .no (.n .no (.n (.n .no (.n (.lp [] ⟨.normal,[9,8],⟨[a,w],[],[q]⟩⟩ [⟨(.exit 0),[8],⟨[w],[],[q]⟩⟩] (.n .no (.n (.n (.n .no (.jn [] [] [⟨.normal,[10],⟨[a],[],[]⟩⟩] .no .no)) .no) .no))) .no)) .no)))))) (.cons aA0 (.cons al8 (.cons bm0 (.cons ag8 (.nil _))))) λ_=>by kernel_rfl
def co5 :FSum:=⟨210,[r],[],[⟨.ret,[],⟨[(.full 0)],[],[(.arr Zb al)]⟩⟩],au2⟩
theorem cs2 :Rt co5:=rq ((.n .no (.n .no (.n .no (.n .no (.n (.n .no (.n (.lp [] ⟨.normal,[8,7],⟨[a,ac],[],[(.arr Zb al)]⟩⟩ [⟨(.exit 0),[7],⟨[ac],[],[(.arr Zb al)]⟩⟩] (.n .no (.n (.n (.jn [] [] [⟨(.exit 1),[8],⟨[a],[],[]⟩⟩,⟨.normal,[8],⟨[a],[],[]⟩⟩] .no .no) .no) .no))) .no)) .no)))))) (.cons al8 (.cons cd7 (.nil _))) λ_=>by kernel_rfl
def bP1 (n:Nat):FSum:=⟨211,[r,(.leaf (.list aa)),a,a],[],[⟨.ret,[],⟨[(.tup [r,a])],[],[]⟩⟩],λt=>(ji n) t.1 t.2.1 t.2.2.1 t.2.2.2⟩
theorem aL4 : ∀n,at0 aB (bP1 n)
 |0=>qj (λt=>rfl)
 |n+1=>rq ((.n .no (.n .no (.n .no (.n (.n .no (.n (.lp [] ⟨.normal,[12,11,10],⟨[a,a,p],[],[(.arr Zb al)]⟩⟩ [⟨(.exit 0),[10,11],⟨[p,a],[],[(.arr Zb al)]⟩⟩] (.n .no (.n (.n (.n .no (.n .no (.n .no (.n (.n .no (.n (.lp [] ⟨.normal,[15,10,11],⟨[h,w,a],[],[(.arr Zb al)]⟩⟩ [⟨(.exit 2),[11,10],⟨[a,w],[],[(.arr Zb al)]⟩⟩] .no) .no)) .no)))) .no) .no))) .no)) .no))))) (.cons (aL4 n) (.nil _)) λ_=>by kernel_rfl
def co4 :FSum:=⟨211,[r,(.leaf (.list aa)),a,a],[],[⟨.ret,[],⟨[(.tup [r,a])],[],[]⟩⟩],by exact u4 aN6⟩
theorem cs1 :Rt co4:=(aL4 400)
def bP2 :FSum:=⟨158,[ah],[],[⟨.ret,[],⟨[(.tup [r,a])],[],[]⟩⟩],by exact u2 pv⟩
theorem ag9 :Rt bP2:=rq (.no) (.cons bK9 (.cons cs2 (.cons al8 (.cons cs1 (.nil _))))) λ_=>by kernel_rfl
def bP4 :FSum:=⟨161,[i,i,i],[],[⟨.ret,[],⟨[(.full 0)],[],[b]⟩⟩],by exact u3 um⟩
theorem aA1 :Rt bP4:=rq ((.n .no (.n .no (.n (.n .no (.n (.lp [] ⟨.normal,[8,7],⟨[a,p],[],[b]⟩⟩ [⟨(.exit 0),[7],⟨[p],[],[b]⟩⟩] .no) .no)) (.n (.n .no (.n (.lp [] ⟨.normal,[9,7],⟨[a,w],[],[b]⟩⟩ [⟨(.exit 2),[7],⟨[w],[],[b]⟩⟩] .no) .no)) (.n (.n .no (.n (.lp [] ⟨.normal,[10,7],⟨[a,ac],[],[b]⟩⟩ [⟨(.exit 4),[7],⟨[ac],[],[b]⟩⟩] .no) .no)) .no)))))) (.nil _) λ_=>by kernel_rfl
def cc2 :FSum:=⟨152,[(.agg [a,r,a,r,a,i]),a,i],[],[⟨.ret,[],⟨[(.full 0)],[],[b]⟩⟩],by exact u8 yy⟩
theorem bm1 :Rt cc2:=rq (.no) (.cons aA1 (.nil _)) λ_=>by kernel_rfl
def cc0 :FSum:=⟨159,[a,i],[],[⟨.ret,[],⟨[(.full 0)],[],[b]⟩⟩],by exact u2 tf⟩
theorem aJ0 :Rt cc0:=rq ((.n .no (.n .no (.n (.n .no (.n (.lp [] ⟨.normal,[6,5],⟨[a,p],[],[b]⟩⟩ [⟨(.exit 0),[5],⟨[p],[],[b]⟩⟩] (.n .no (.n (.n (.n .no (.jn [] [] [⟨.normal,[7],⟨[h],[],[]⟩⟩] .no .no)) .no) .no))) .no)) .no)))) (.nil _) λ_=>by kernel_rfl
def bO6 :FSum:=⟨243,[h],[],[⟨.ret,[],⟨[(.agg [a,a,a,a,a,a,a,a])],[],[]⟩⟩],ny⟩
theorem az8 :Rt bO6:=rq ((.n .no (.n .no (.n (.n .no (.n (.lp [1] ⟨.normal,[4,0],⟨[a,h],[bb],[]⟩⟩ [⟨(.exit 0),[],⟨[],[bb],[]⟩⟩] .no) .no)) .no)))) (.nil _) λ_=>by kernel_rfl
def bO7 :FSum:=⟨244,[(.agg [a,a,a,a,a,a,a,a])],[],[⟨.ret,[],⟨[h],[],[]⟩⟩],by exact u8 pt⟩
theorem az9 :Rt bO7:=rq ((.n .no (.n .no (.n .no (.n .no (.n (.n .no (.n (.lp [] ⟨.normal,[6,5,3,4],⟨[a,a,h,h],[],[]⟩⟩ [⟨(.exit 0),[3],⟨[h],[],[]⟩⟩] .no) .no)) .no)))))) (.nil _) λ_=>by kernel_rfl
def cn5 :FSum:=⟨189,[h,h],[],[⟨.ret,[],⟨[h],[],[]⟩⟩],by exact u2 sd⟩
theorem aR5 :Rt cn5:=rq ((.n .no (.n .no (.n .no (.n (.n .no (.n (.lp [0] ⟨.normal,[7],⟨[a],[bb],[]⟩⟩ [⟨(.exit 0),[],⟨[],[bb],[]⟩⟩] .no) .no)) .no))))) (.cons az8 (.cons az9 (.nil _))) λ_=>by kernel_rfl
def cA9 :FSum:=⟨260,[h],[],[⟨.ret,[],⟨[h],[],[]⟩⟩],ab7⟩
theorem bG3 :Rt cA9:=rq ((.n .no (.n .no (.n (.n .no (.n (.lp [0] ⟨.normal,[4],⟨[a],[bb],[]⟩⟩ [⟨(.exit 0),[],⟨[],[bb],[]⟩⟩] .no) .no)) .no)))) (.cons az8 (.cons az9 (.nil _))) λ_=>by kernel_rfl
def cb4 :FSum:=⟨190,[h,h],[],[⟨.ret,[],⟨[h],[],[]⟩⟩],by exact u2 vu⟩
theorem bl8 :Rt cb4:=rq ((.n .no (.n .no (.n .no (.n .no (.n (.n .no (.n (.lp [2] ⟨.normal,[8],⟨[a],[bb],[]⟩⟩ [⟨(.exit 0),[],⟨[],[bb],[]⟩⟩] (.n .no (.n (.n (.n .no (.n (.lp [2] ⟨.normal,[9],⟨[a],[bb],[]⟩⟩ [⟨(.exit 2),[],⟨[],[bb],[]⟩⟩] .no) .no)) .no) .no))) .no)) .no)))))) (.cons az8 (.cons az9 (.nil _))) λ_=>by kernel_rfl
def cb5 :FSum:=⟨212,[ax,h,h],[],[⟨.ret,[],⟨[h],[],[]⟩⟩],by exact u7 yx⟩
theorem bl9 :Rt cb5:=rq (.no) (.cons aR5 (.cons bG3 (.cons bl8 (.nil _)))) λ_=>by kernel_rfl
def bA2 :FSum:=⟨160,[r,i],[],[⟨.ret,[],⟨[(.full 0)],[],[b]⟩⟩],by exact u2 xn⟩
theorem bA6 :Rt bA2:=rq ((.n .no (.n .no (.n (.n .no (.n (.lp [0] ⟨.normal,[6],⟨[a],[b],[]⟩⟩ [⟨(.exit 0),[],⟨[],[b],[]⟩⟩] .no) .no)) .no)))) (.cons aJ0 (.cons bl9 (.nil _))) λ_=>by kernel_rfl
def cq3 :FSum:=⟨17,[ap],[],[⟨.ret,[],⟨[bq],[],[]⟩⟩],by exact u34 xr⟩
theorem aR9 :Rt cq3:=rq (.no) (.nil _) λ_=>by kernel_rfl
def bj2 :FSum:=⟨25,[g],[an,c,c,d,d,l,af,y,c],[⟨.ret,[],⟨[a],[an],[]⟩⟩],by exact u27 ua⟩
theorem bk3 :Rt bj2:=rq (.no) (.nil _) λ_=>by kernel_rfl
def cp6 :FSum:=⟨206,[a],[],[⟨.ret,[],⟨[(.tup [a,a])],[],[]⟩⟩],au8⟩
theorem cs9 :Rt cp6:=rq (.no) (.nil _) λ_=>by kernel_rfl
def cc4 :FSum:=⟨149,[(.agg [a,a])],[],[ad],by exact u2 yz⟩
theorem bm2 :Rt cc4:=rq (.no) (.cons cs9 (.nil _)) λ_=>by kernel_rfl
def cc1 :FSum:=⟨289,[ah,i,i],[],[⟨.ret,[],⟨[(.tup [r,a])],[],[]⟩⟩],by exact u4 aH5⟩
theorem cd8 :Rt cc1:=rq (.no) (.cons ag9 (.nil _)) λ_=>by kernel_rfl
def co7 :FSum:=⟨290,[i],[],[⟨.ret,[],⟨[(.full 0)],[],[b]⟩⟩],uP⟩
theorem bu2 :Rt co7:=rq ((.n .no (.n .no (.n (.n .no (.n (.lp [] ⟨.normal,[4,3],⟨[a,p],[],[b]⟩⟩ [⟨(.exit 0),[3],⟨[p],[],[b]⟩⟩] .no) .no)) .no)))) (.nil _) λ_=>by kernel_rfl
def bP3 :FSum:=⟨257,[ah,i,i],[],[⟨.ret,[],⟨[(.tup [(.full 0),p,a,a])],[],[b,b]⟩⟩],by exact u4 af5⟩
theorem bQ7 :Rt bP3:=rq ((.n .no (.n .no (.n .no (.n .no (.n .no (.n (.n .no (.n (.lp [1,2] ⟨.normal,[14],⟨[a],[b,b],[]⟩⟩ [⟨(.exit 0),[],⟨[],[b,b],[]⟩⟩] .no) .no)) .no))))))) (.cons cd8 (.cons bu2 (.cons bl9 (.nil _)))) λ_=>by kernel_rfl
def bA0 :FSum:=⟨291,[ax,h,h],[],[⟨.ret,[],⟨[(.tup [h,h])],[],[]⟩⟩],by exact u7 xg⟩
theorem bA5 :Rt bA0:=rq (.no) (.cons bG3 (.nil _)) λ_=>by kernel_rfl
def co8 :FSum:=⟨258,[ah,i,i,i],[],[⟨.ret,[],⟨[(.tup [(.full 0),p,a])],[],[b,b]⟩⟩],by exact u5 au3⟩
theorem cs4 :Rt co8:=rq ((.n .no (.n .no (.n .no (.n .no (.n .no (.n .no (.n .no (.n (.n .no (.n (.lp [1,2] ⟨.normal,[15],⟨[a],[b,b],[]⟩⟩ [⟨(.exit 0),[],⟨[],[b,b],[]⟩⟩] (.n .no (.n (.n (.n .no (.n .no (.n .no (.n .no (.n .no (.n .no (.jn [2] [] [⟨.normal,[],⟨[],[b],[]⟩⟩] .no .no))))))) .no) .no))) .no)) .no))))))))) (.cons ag9 (.cons bu2 (.cons bA5 (.cons ag8 (.cons bl8 (.cons aR5 (.nil _))))))) λ_=>by kernel_rfl
def co9 :FSum:=⟨208,[ah,i,i],[],[⟨.ret,[],⟨[(.tup [(.full 0),a])],[],[b]⟩⟩],by exact u4 af6⟩
theorem bu3 :Rt co9:=rq ((.n .no (.n .no (.n .no (.n .no (.n (.dr [0,1,2,3,5,6,1007,4,7,8,9,10,11,12,13,14,15,16,17]) .no)))))) (.cons ag9 (.cons aJ0 (.cons bQ7 (.cons cs4 (.nil _))))) λ_=>by kernel_rfl
def bA4 :FSum:=⟨157,[(.agg [a,r,a,r,a,i]),a,i,i],[],[⟨.ret,[],⟨[(.tup [i,i,a])],[],[]⟩⟩],by exact u9 xp⟩
theorem bA8 :Rt bA4:=rq (.no) (.cons bm1 (.cons bu3 (.nil _))) λ_=>by kernel_rfl
def cB4 :FSum:=⟨156,[i,i],[],[⟨.ret,[],⟨[(.full 0)],[],[b]⟩⟩],by exact u2 an0⟩
theorem bG6 :Rt cB4:=rq ((.n .no (.n .no (.n (.n .no (.n (.lp [] ⟨.normal,[6,5],⟨[a,p],[],[b]⟩⟩ [⟨(.exit 0),[5],⟨[p],[],[b]⟩⟩] .no) .no)) .no)))) (.cons aR5 (.nil _)) λ_=>by kernel_rfl
def cq5 :FSum:=⟨85,[ap,a,i],[],[⟨.ret,[],⟨[(.agg [a,i,i,a,r,a,r,a,a,a,r,a,r,a,i,a,a,a,a,a,a,a,i,au,a,bl,i,(.full 0),h,a,a,a,a,a])],[],[b]⟩⟩],by exact u36 pf⟩
theorem bu7 :Rt cq5:=rq (.no) (.cons bA8 (.cons bG6 (.nil _))) λ_=>by kernel_rfl
def co6 :FSum:=⟨207,[ah,i,a],[],[⟨.ret,[],⟨[(.tup [(.full 0),a])],[],[b]⟩⟩],by exact u4 aN7⟩
theorem cs3 :Rt co6:=rq ((.n .no (.n .no (.n .no (.n .no (.jn [] [] [⟨.normal,[2],⟨[a],[],[]⟩⟩] .no .no)))))) (.cons ag9 (.cons aJ0 (.cons bA6 (.nil _)))) λ_=>by kernel_rfl
def cB0 :FSum:=⟨151,[ah,i],[],[⟨.ret,[],⟨[(.tup [(.full 0),a])],[],[b]⟩⟩],by exact u3 am9⟩
theorem bG4 :Rt cB0:=rq (.no) (.cons cs3 (.nil _)) λ_=>by kernel_rfl
def cp1 :FSum:=⟨80,[(.agg [a,r,a,r,a,i]),a,i],[],[⟨.ret,[],⟨[(.tup [(.full 0),a])],[],[b]⟩⟩],by exact u8 uQ⟩
theorem bu4 :Rt cp1:=rq (.no) (.cons bm1 (.cons bG4 (.nil _))) λ_=>by kernel_rfl
def cp0 :FSum:=⟨154,[(.agg [a,r,a,r,a,i]),i],[],[⟨.ret,[],⟨[(.tup [h,a])],[],[]⟩⟩],by exact u7 au4⟩
theorem cs5 :Rt cp0:=rq (.no) (.cons aA1 (.cons bG4 (.nil _))) λ_=>by kernel_rfl
def bA3 :FSum:=⟨155,[(.agg [a,r,a,r,a,i]),i],[],[⟨.ret,[],⟨[(.tup [i,i,a])],[],[]⟩⟩],by exact u7 xo⟩
theorem bA7 :Rt bA3:=rq ((.n .no (.n .no (.n (.dr [0,1,2,3,4,1006,5,6,7,8,9,10,11,12]) .no)))) (.cons aA1 (.cons bu3 (.nil _))) λ_=>by kernel_rfl
def cB3 :FSum:=⟨84,[ap,i],[],[⟨.ret,[],⟨[(.agg [a,i,i,a,r,a,r,a,a,a,r,a,r,a,i,a,a,a,a,a,a,a,i,au,a,bl,i,(.full 0),h,a,a,a,a,a])],[],[b]⟩⟩],by exact u35 sj⟩
theorem bG5 :Rt cB3:=rq (.no) (.cons cs5 (.cons bA7 (.cons bG6 (.nil _)))) λ_=>by kernel_rfl
def cc7 :FSum:=⟨77,[ap,(.agg [a,a])],[],[⟨.ret,[],⟨[bq],[],[]⟩⟩],by exact u36 al7⟩
theorem ce1 :Rt cc7:=rq ((.n .no (.jn [0,1,2] [] [⟨.ret,[5],⟨[(.cint .i64 2)],[v,(.cells 1 Zb [a,a]),v],[]⟩⟩,⟨.normal,[],⟨[],[v,(.cells 1 Zb [a,a]),bp],[]⟩⟩] .no .no))) (.cons bm2 (.cons bu7 (.cons bu4 (.cons aR8 (.cons aA2 (.cons bG5 (.nil _))))))) λ_=>by kernel_rfl
def cp7 :FSum:=⟨150,[(.agg [a,a,(.leaf (.list aa))])],[],[⟨.ret,[],⟨[(.agg [a,a,(.full 0)])],[],[q]⟩⟩],by exact u3 af9⟩
theorem bu6 :Rt cp7:=rq ((.n .no (.n .no (.n (.n .no (.n (.lp [2] ⟨.normal,[4],⟨[a],[(.cells 1 Zb [a,a,ac])],[q]⟩⟩ [⟨(.exit 0),[],⟨[],[(.cells 1 Zb [a,a,ac])],[q]⟩⟩] .no) .no)) .no)))) (.nil _) λ_=>by kernel_rfl
def cM7 :FSum:=⟨78,[a,(.agg [a,a,(.leaf (.list aa))])],[],[⟨.ret,[],⟨[(.tup [(.agg [a,a,a,(.full 0),j]),a])],[],[q]⟩⟩],by exact u4 aN8⟩
theorem cN6 :Rt cM7:=rq ((.n .no (.n .no (.n (.n .no (.n (.lp [1] ⟨.normal,[6],⟨[a],[(.cells 1 Zb [j,j,j,NS,j])],[]⟩⟩ [⟨.ret,[5],⟨[(.cint .i64 2)],[(.cells 1 Zb [j,j,j,NS,j])],[]⟩⟩,⟨(.exit 0),[],⟨[],[(.cells 1 Zb [j,j,j,NS,j])],[]⟩⟩] .no) .no)) .no)))) (.cons bu6 (.nil _)) λ_=>by kernel_rfl
def cM8 :FSum:=⟨79,[(.agg [a,a,a,(.leaf (.list aa)),a]),(.agg [a,a])],[],[⟨.ret,[],⟨[(.tup [(.agg [a,a,a,(.leaf (.list aa)),a]),a])],[],[]⟩⟩],by exact u7 aN9⟩
theorem cN7 :Rt cM8:=rq ((.n .no (.n .no (.jn [] [] [⟨.normal,[6],⟨[o],[],[]⟩⟩] .no (.jn [0,1,2] [] [⟨.ret,[5],⟨[(.cint .i64 2)],[(.cells 1 Zb [a,a,a,(.leaf (.list aa)),a]),(.cells 1 Zb [a,a]),(.cells 1 Zb [a,a,a,(.leaf (.list aa)),a])],[]⟩⟩,⟨.normal,[],⟨[],[(.cells 1 Zb [a,a,a,(.leaf (.list aa)),a]),(.cells 1 Zb [a,a]),(.cells 1 Zb [j,j,j,NS,j])],[]⟩⟩] .no (.n (.dr [0,1,2,3,5,6,4,7,8,9]) (.n .no (.jn [] [] [⟨.normal,[8],⟨[a],[],[]⟩⟩] .no (.n (.n .no (.n (.n .no (.n .no (.n .no (.n .no (.jn [] [] [⟨.normal,[115],⟨[o],[],[]⟩⟩] .no .no))))) .no)) .no))))))))) (.cons bm2 (.cons bu6 (.nil _))) λ_=>by kernel_rfl
def cp5 :FSum:=⟨153,[(.agg [au,a]),a,(.agg [a,i])],[],[⟨.ret,[],⟨[(.agg [(.full 0),a])],[],[(.arr Zb bi)]⟩⟩],by exact u5 af8⟩
theorem bu5 :Rt cp5:=rq ((.n .no (.n .no (.n (.n .no (.n (.lp [0,1,2,3] ⟨.normal,[8],⟨[a],[(.cells 1 Zb [au,a]),(.cells 1 Zb [a,i]),(.cells 1 Zb [NS,j]),(.cells 1 Zb [ab,a])],[(.arr Zb bi)]⟩⟩ [⟨(.exit 0),[],⟨[],[(.cells 1 Zb [au,a]),(.cells 1 Zb [a,i]),(.cells 1 Zb [NS,j]),(.cells 1 Zb [ab,a])],[(.arr Zb bi)]⟩⟩] .no) .no)) .no)))) (.nil _) λ_=>by kernel_rfl
def cc3 :FSum:=⟨81,[(.agg [au,a]),a,a,i],[],[⟨.ret,[],⟨[(.tup [(.agg [au,a]),a])],[],[]⟩⟩],by exact u5 al4⟩
theorem cd9 :Rt cc3:=rq (.no) (.cons bu5 (.nil _)) λ_=>by kernel_rfl
def bK2 :FSum:=⟨82,[(.agg [au,a]),a],[],[⟨.ret,[],⟨[(.tup [a,i,a])],[],[]⟩⟩],by exact u3 zx⟩
theorem bL0 :Rt bK2:=rq (.no) (.nil _) λ_=>by kernel_rfl
def cp2 :FSum:=⟨83,[(.agg [au,a]),a],[],[⟨.ret,[],⟨[(.tup [(.agg [au,a]),a])],[],[]⟩⟩],by exact u3 au5⟩
theorem cs6 :Rt cp2:=rq (.no) (.cons bu5 (.nil _)) λ_=>by kernel_rfl
def cN0 :FSum:=⟨18,[ap,(.agg [a,a])],[],[⟨.ret,[],⟨[bq],[],[]⟩⟩],by exact u36 wL⟩
theorem bo1 :Rt cN0:=rq ((.n .no (.n .no (.n (.dr [0,1,2,3,4,5,6,7,8,9,10]) (.n .no (.n .no (.n .no (.n .no (.n .no (.jn [0,1,2,3,5,6] [] [⟨.normal,[10],⟨[a],[v,(.cells 1 Zb [a,a]),bp,q,(.cells 1 Zb [a,a,a,ab,j]),(.cells 1 Zb [a,a,a,(.leaf (.list aa)),a])],[]⟩⟩] (.n .no (.n (.n .no (.n (.n .no (.n (.lp [0,1,2,3,5,6] ⟨.normal,[14],⟨[a],[v,(.cells 1 Zb [a,a]),bp,q,(.cells 1 Zb [a,a,a,ab,j]),(.cells 1 Zb [a,a,a,(.leaf (.list aa)),a])],[]⟩⟩ [⟨(.exit 1),[],⟨[],[v,(.cells 1 Zb [a,a]),bp,q,(.cells 1 Zb [a,a,a,ab,j]),(.cells 1 Zb [a,a,a,(.leaf (.list aa)),a])],[]⟩⟩] .no) .no)) .no)) .no)) .no)))))))))) (.cons ce1 (.cons ct4 (.cons cN6 (.cons cN7 (.cons aA2 (.cons aR8 (.cons bu4 (.cons cd9 (.cons bL0 (.cons cs6 (.cons bG5 (.cons bu7 (.nil _))))))))))))) λ_=>by kernel_rfl
def cM5 :FSum:=⟨15,[g,ap,(.agg [a,a])],[an,c,c,d,d,l,af,m,b],[⟨.ret,[],⟨[br],[an,m,b],[]⟩⟩],by exact u63 aN4⟩
theorem cN5 :Rt cM5:=rq (.no) (.cons aR9 (.cons bk3 (.cons bo1 (.cons bt3 (.nil _))))) λ_=>by kernel_rfl
def aW4 :FSum:=⟨71,[g],[aq,c,c,d,d,l,ai,ag,y,c],[x],by exact u30 vy⟩
theorem aX7 :Rt aW4:=rq (.no) (.cons az6 (.nil _)) λ_=>by kernel_rfl
def aW7 :FSum:=⟨73,[g],[aq,c,c,d,d,l,ai,ag,y,c],[x],by exact u30 vz⟩
theorem aY0 :Rt aW7:=rq (.no) (.cons az7 (.nil _)) λ_=>by kernel_rfl
def aH9 :FSum:=⟨24,[g],[aq,c,c,d,d,l,ai,ag,y,c],[⟨.ret,[],⟨[bk],[],[]⟩⟩],by exact u30 db⟩
theorem zf :Rt aH9:=rq ((.n .no (.n .no (.n .no (.n .no (.n (.n .no (.n (.lp [11] ⟨.normal,[50],⟨[a],[bm],[]⟩⟩ [⟨(.exit 0),[],⟨[],[bm],[]⟩⟩] .no) .no)) .no)))))) (.cons aX7 (.cons aY0 (.nil _))) λ_=>by kernel_rfl
def aO3 :FSum:=⟨23,[g],[aq,c,c,d,d,l,ai,ag,y,c],[⟨.ret,[],⟨[(.full 10)],[],[b]⟩⟩],by exact u30 cy⟩
theorem ag4 :Rt aO3:=rq (.no) (.cons as7 (.nil _)) λ_=>by kernel_rfl
def aW5 :FSum:=⟨25,[g],[am,c,c,d,d,l,ai,ag,y,c],[⟨.ret,[],⟨[a],[am],[]⟩⟩],by exact u30 qo⟩
theorem aX8 :Rt aW5:=rq (.no) (.nil _) λ_=>by kernel_rfl
def cm9 :FSum:=⟨15,[g,ap,(.agg [a,a])],[am,c,c,d,d,l,ai,ag,m,b],[⟨.ret,[],⟨[br],[am,m,b],[]⟩⟩],by exact u66 at8⟩
theorem cr4 :Rt cm9:=rq (.no) (.cons aR9 (.cons aX8 (.cons bo1 (.cons bk0 (.nil _))))) λ_=>by kernel_rfl
def as6 :FSum:=⟨145,[g,h],[bo,c,c,d,d,l],[ad],by exact u23 ec⟩
theorem bl0 :Rt as6:=rq (.no) (.nil _) λ_=>by kernel_rfl
def bs4 :FSum:=⟨146,[i],[],[⟨.ret,[],⟨[(.tup [.nilp,a])],[],[]⟩⟩,⟨.ret,[],⟨[(.tup [g,j])],[],[(.cells 1 Zb [p,j]),b]⟩⟩],at6⟩
theorem cr1 :Rt bs4:=rq (.no) (.cons bl5 (.cons fi (.nil _))) λ_=>by kernel_rfl
def an1 :FSum:=⟨63,[.nilp,a],[],[⟨.ret,[],⟨[(.tup [j,(.cint .i64 1)])],[],[]⟩⟩],am4⟩
theorem bb2 :Rt an1:=rq (.no) (.nil _) λ_=>by kernel_rfl
def aD4 :FSum:=⟨64,[g],[bo,c,c,d,d,l],[ad],by exact u22 re⟩
theorem yg :Rt aD4:=rq (.no) (.nil _) λ_=>by kernel_rfl
def cc8 :FSum:=⟨204,[.nilp,a,a,a],[],[⟨.ret,[],⟨[(.tup [.nilp,(.cint .i64 1)])],[],[]⟩⟩],by exact u3 bl3⟩
theorem ce2 :Rt cc8:=rq (.no) (.nil _) λ_=>by kernel_rfl
def aj2 :FSum:=⟨147,[g],[bo,c,c,d,d,l],[ad],by exact u22 ai9⟩
theorem aZ1 :Rt aj2:=rq (.no) (.cons yg (.cons ce2 (.nil _))) λ_=>by kernel_rfl
def bn4 :FSum:=⟨205,[.nilp],[],[⟨.ret,[],⟨[j],[],[]⟩⟩],λ_=>aa7⟩
theorem aA4 :Rt bn4:=rq ((.n .no (.n .no (.n (.n .no (.n (.lp [] ⟨.normal,[9,3],⟨[j,j],[],[]⟩⟩ [⟨(.exit 0),[3],⟨[j],[],[]⟩⟩] .no) .no)) .no)))) (.cons ab1 (.nil _)) λ_=>by kernel_rfl
def as5 :FSum:=⟨148,[g],[bo,c,c,d,d,l],[x],by exact u22 as4⟩
theorem bk9 :Rt as5:=rq (.no) (.cons yg (.cons aA4 (.nil _))) λ_=>by kernel_rfl
def aD5 :FSum:=⟨64,[g],[(.cells 1 Za [a,a,a,a,a,p,w,a,ac,a,ab,a,a,ae,ao, .nilp, .nilp,a,a,a,a,a,a,a,h]),c,c,d,d,l,(.cells 1 Za [(.full 7),a]),c],[ad],by exact u24 et⟩
theorem yh :Rt aD5:=rq (.no) (.nil _) λ_=>by kernel_rfl
def bK4 :FSum:=⟨204,[g,a,a,a],[(.cells 1 Za [p,a]),c],[⟨.ret,[],⟨[(.tup [.nilp,a])],[],[]⟩⟩,⟨.ret,[],⟨[(.tup [(.ptr 2 0),j])],[],[(.cells 1 Zb [a,a,a,g])]⟩⟩],by exact u5 rp⟩
theorem bL2 :Rt bK4:=rq ((.n .no (.n .no (.n .no (.n .no (.n (.n .no (.n (.lp [] ⟨.normal,[41],⟨[a],[],[]⟩⟩ [⟨.ret,[8,9],⟨[.nilp,(.cint .i64 2)],[],[]⟩⟩,⟨(.exit 1),[],⟨[],[],[]⟩⟩] .no) .no)) .no)))))) (.cons aF8 (.cons vd (.cons qb (.cons qc (.cons su (.nil _)))))) λ_=>by kernel_rfl
def aW9 :FSum:=⟨29,[g],[(.cells 1 Za [a,a,a,a,a,p,w,a,ac,a,ab,a,a,ae,ao, .nilp, .nilp,a,a,a,a,a,a,a,h]),c,c,d,d,l,(.cells 1 Za [(.full 7),a]),c],[⟨.ret,[],⟨[(.agg [a,a,NS])],[],[]⟩⟩],by exact u24 ai8⟩
theorem aY2 :Rt aW9:=rq (.no) (.cons ab1 (.nil _)) λ_=>by kernel_rfl
def aX0 :FSum:=⟨29,[g],[(.cells 1 Za [a,a,a,a,a,p,w,a,ac,a,ab,a,a,ae,ao,av, .nilp,a,a,a,a,a,a,a,h]),c,c,d,d,l,af,ag,c],[⟨.ret,[],⟨[(.agg [a,a,(.full 9)])],[],[q]⟩⟩],by exact u27 qr⟩
theorem aY3 :Rt aX0:=rq (.no) (.cons wP (.nil _)) λ_=>by kernel_rfl
def ab8 :FSum:=⟨147,[g],[(.cells 1 Zb [a,a,a,a,a,p,w,a,ac,a,ab,a,a,ae,ao, .nilp, .nilp,a,a,a,a,a,a,a,h]),c,c,d,d,l,(.cells 1 Za [(.full 7),a]),c],[⟨.ret,[],⟨[o],[(.cells 1 Zb [a,a,a,a,a,p,w,a,ac,a,ab,a,a,ae,ao, .nilp, .nilp,a,a,a,a,a,a,a,h])],[]⟩⟩,⟨.ret,[],⟨[o],[(.cells 1 Zb [a,a,a,a,a,p,w,a,ac,a,ab,a,a,ae,ao,be, .nilp,a,a,a,a,a,a,a,h])],[(.cells 1 Zb [a,a,a,ao])]⟩⟩],by exact u24 i6⟩
theorem aL1 :Rt ab8:=rq (.no) (.cons yh (.cons bL2 (.cons aY2 (.cons aQ9 (.cons aY3 (.nil _)))))) λ_=>by kernel_rfl
def aj0 :FSum:=⟨148,[g],[(.cells 1 Za [a,a,a,a,a,p,w,a,ac,a,ab,a,a,ae,ao, .nilp, .nilp,a,a,a,a,a,a,a,h]),c,c,d,d,l,(.cells 1 Za [(.full 7),a]),c],[x],by exact u24 qw⟩
theorem aY8 :Rt aj0:=rq (.no) (.cons yh (.cons aA4 (.nil _))) λ_=>by kernel_rfl
def aD6 :FSum:=⟨64,[g],[(.cells 1 Za [a,a,a,a,a,p,w,a,ac,a,ab,a,a,ae,ao,av, .nilp,a,a,a,a,a,a,a,h]),c,c,d,d,l,af,ag,c],[ad],by exact u27 mm⟩
theorem aE1 :Rt aD6:=rq (.no) (.nil _) λ_=>by kernel_rfl
def bb0 :FSum:=⟨205,[g],[(.cells 1 Za [a,a,a,(.ptr 1 0)]),(.cells 1 Za [w,a]),c],[x],by exact u5 sr⟩
theorem bc5 :Rt bb0:=rq ((.n .no (.n .no (.n (.n .no (.n (.lp [] ⟨.normal,[9,3],⟨[a,a],[],[]⟩⟩ [⟨(.exit 0),[3],⟨[a],[],[]⟩⟩] .no) .no)) .no)))) (.cons wP (.nil _)) λ_=>by kernel_rfl
def aj1 :FSum:=⟨148,[g],[(.cells 1 Za [a,a,a,a,a,p,w,a,ac,a,ab,a,a,ae,ao,av, .nilp,a,a,a,a,a,a,a,h]),c,c,d,d,l,af,ag,c],[x],by exact u27 qx⟩
theorem aY9 :Rt aj1:=rq (.no) (.cons aE1 (.cons bc5 (.nil _))) λ_=>by kernel_rfl
def ca5 :FSum:=⟨16,[aj,i,bk],[],[⟨.ret,[],⟨[(.tup [.nilp,a])],[],[]⟩⟩,⟨.ret,[],⟨[(.tup [g,j])],[],[an,b,b,(.arr Zb al),(.arr Zb al),q,(.cells 1 Zb [(.full 8),a]),m,b]⟩⟩,⟨.ret,[],⟨[(.tup [g,j])],[],[am,b,b,(.arr Zb al),(.arr Zb al),q,(.cells 1 Zb [(.full 9),a]),(.cells 1 Zb [a,a,a,ao]),m,b]⟩⟩],by exact u26 ia⟩
theorem cd0 :Rt ca5:=jm (ins:=[⟨76,ir aB 76 ⟨[as6,bs4,an1,aj2,as5,bO1,ay9,ab8,aj0,aj1],[]⟩ (.n .no (.n .no (.n .no (.n .no (.n .no (.n .no (.sz 6011 (.jn [2] [] [⟨.ret,[6],⟨[o],[(.cells 1 Zb [a,a,a,a,a,ac,ab,a,ae,a,(.full 6),a,a,(.full 7),(.ptr 9 0), .nilp, .nilp,a,a,a,a,a,a,a,h])],[]⟩⟩,⟨.ret,[6],⟨[o],[(.cells 1 Zb [a,a,a,a,a,ac,ab,a,ae,a,(.full 6),a,a,(.full 7),(.ptr 9 0),(.ptr 11 0), .nilp,a,a,a,a,a,a,a,h])],[(.cells 1 Zb [a,a,a,(.ptr 9 0)])]⟩⟩,⟨.normal,[],⟨[],[(.cells 1 Zb [a,a,a,a,a,ac,ab,a,ae,a,(.full 6),a,a,(.full 7),(.ptr 9 0), .nilp, .nilp,a,a,a,a,a,a,a,h])],[]⟩⟩,⟨.normal,[],⟨[],[(.cells 1 Zb [a,a,a,a,a,ac,ab,a,ae,a,(.full 6),a,a,(.full 7),(.ptr 9 0),(.ptr 11 0), .nilp,a,a,a,a,a,a,a,h])],[(.cells 1 Zb [a,a,a,(.ptr 9 0)])]⟩⟩] .no .no) .no)))))))⟩]) (at':= .no) (.cons bl6 (.nil _)) (cg.cons (dy (.cons bl0 (.cons cr1 (.cons bb2 (.cons aZ1 (.cons bk9 (.cons bQ0 (.cons aa9 (.cons aL1 (.cons aY8 (.cons aY9 (.nil _))))))))))) (cg.nil _)) (cg.nil _)) λ_=>by kernel_rfl
def cq1 :FSum:=⟨21,[aj,i,bk],[],[ad],by exact u26 il⟩
theorem ct3 :Rt cq1:=rq ((.n .no (.n .no (.n .no (.jn [] [] [⟨.ret,[6],⟨[o],[],[]⟩⟩,⟨.normal,[],⟨[],[],[]⟩⟩] .no (.n .no (.jn [] [] [⟨.normal,[11],⟨[a],[],[]⟩⟩] .no (.n (.n .no (.n (.lp [] ⟨.normal,[12,11],⟨[a,a],[],[]⟩⟩ [⟨.ret,[6],⟨[o],[],[]⟩⟩,⟨(.exit 0),[11],⟨[a],[],[]⟩⟩] .no) .no)) .no)))))))) (.cons aR7 (.cons bQ8 (.nil _))) λ_=>by kernel_rfl
def cN2 :FSum:=⟨115,[i],[],[⟨.ret,[],⟨[h],[],[]⟩⟩],ay6⟩
theorem bR0 :Rt cN2:=rq ((.n .no (.n .no (.n (.n .no (.n (.lp [] ⟨.normal,[8,3],⟨[a,h],[],[]⟩⟩ [⟨(.exit 0),[3],⟨[h],[],[]⟩⟩] .no) .no)) .no)))) (.nil _) λ_=>by kernel_rfl
def cN1 :FSum:=⟨114,[i],[],[⟨.ret,[],⟨[h],[],[]⟩⟩],ay5⟩
theorem bQ9 :Rt cN1:=rq ((.n .no (.n .no (.n (.n .no (.n (.lp [] ⟨.normal,[8,3],⟨[a,h],[],[]⟩⟩ [⟨(.exit 0),[3],⟨[h],[],[]⟩⟩] .no) .no)) .no)))) (.nil _) λ_=>by kernel_rfl
def cm8 :FSum:=⟨98,[i],[],[⟨.ret,[],⟨[h],[],[]⟩⟩],xf⟩
theorem bt6 :Rt cm8:=rq ((.n .no (.n .no (.n (.n .no (.n (.lp [] ⟨.normal,[8,3],⟨[a,h],[],[]⟩⟩ [⟨(.exit 0),[3],⟨[h],[],[]⟩⟩] .no) .no)) .no)))) (.cons bR0 (.cons bQ9 (.nil _))) λ_=>by kernel_rfl
def bN7 :FSum:=⟨97,[i,bk],[],[⟨.ret,[],⟨[(.full 0)],[],[b]⟩⟩],by exact u17 ue⟩
theorem az5 :Rt bN7:=rq (.no) (.cons bt6 (.nil _)) λ_=>by kernel_rfl
def ca8 :FSum:=⟨52,[i],[],[⟨.ret,[],⟨[(.tup [(.full 0),bk,a])],[],[b]⟩⟩],yv⟩
theorem bl7 :Rt ca8:=rq ((.n .no (.n (.n .no (.n (.jn [] [] [⟨.normal,[13],⟨[o],[],[]⟩⟩] .no .no) .no)) (.n .no (.n .no (.n .no (.n (.n .no (.n (.lp [] ⟨.normal,[36,7],⟨[a,h],[],[]⟩⟩ [⟨(.exit 1),[7],⟨[h],[],[]⟩⟩] .no) .no)) .no))))))) (.cons bR0 (.cons bQ9 (.cons fi (.nil _)))) λ_=>by kernel_rfl
def cn1 :FSum:=⟨32,[],[],[ad],λ_=>ff⟩
theorem cr6 :Rt cn1:=rq (.no) (.cons az5 (.cons bl7 (.cons bt6 (.cons bt9 (.nil _))))) λ_=>by kernel_rfl
def bJ8 :FSum:=⟨33,[.nilp],[],[⟨.ret,[],⟨[(.tup [NS,(.cint .i64 1)])],[],[]⟩⟩],λ_=>mf⟩
theorem bK8 :Rt bJ8:=rq (.no) (.nil _) λ_=>by kernel_rfl
def aW6 :FSum:=⟨25,[.nilp],[],[⟨.ret,[],⟨[(.cint .i64 1)],[],[]⟩⟩],λ_=>ai7⟩
theorem aX9 :Rt aW6:=rq (.no) (.nil _) λ_=>by kernel_rfl
def bj0 :FSum:=⟨26,[.nilp,(.agg [a,a])],[],[⟨.ret,[],⟨[(.cint .i64 1)],[],[]⟩⟩],by exact u2 as0⟩
theorem bk1 :Rt bj0:=rq (.no) (.nil _) λ_=>by kernel_rfl
def cn0 :FSum:=⟨15,[.nilp,ap,(.agg [a,a])],[],[⟨.ret,[],⟨[br],[],[]⟩⟩],by exact u36 bs2⟩
theorem cr5 :Rt cn0:=rq (.no) (.cons aR9 (.cons aX9 (.cons bo1 (.cons bk1 (.nil _))))) λ_=>by kernel_rfl
def ca9 :FSum:=⟨34,[aj,i],[],[⟨.ret,[],⟨[(.tup [.nilp,a])],[],[]⟩⟩,⟨.ret,[],⟨[(.tup [g,j])],[],[an,b,b,(.arr Zb al),(.arr Zb al),q,(.cells 1 Zb [(.full 8),a]),m,b]⟩⟩,⟨.ret,[],⟨[(.tup [g,j])],[],[am,b,b,(.arr Zb al),(.arr Zb al),q,(.cells 1 Zb [(.full 9),a]),(.cells 1 Zb [a,a,a,ao]),m,b]⟩⟩],by exact u10 lh⟩
theorem cd2 :Rt ca9:=rq (.no) (.cons bl7 (.cons cd0 (.nil _))) λ_=>by kernel_rfl
def bs7 :FSum:=⟨33,[g],[ar,c,c,d,d,l,af,y,c],[⟨.ret,[],⟨[(.tup [(.full 9),j])],[],[b]⟩⟩],by exact u27 wn⟩
theorem bt4 :Rt bs7:=rq (.no) (.cons an9 (.cons ag5 (.cons az5 (.nil _)))) λ_=>by kernel_rfl
def bs8 :FSum:=⟨33,[g],[aq,c,c,d,d,l,ai,ag,y,c],[⟨.ret,[],⟨[(.tup [(.full 10),j])],[],[b]⟩⟩],by exact u30 wo⟩
theorem bt5 :Rt bs8:=rq (.no) (.cons ag4 (.cons zf (.cons az5 (.nil _)))) λ_=>by kernel_rfl
def ym :FSum:=⟨6,[aj,aj,(.leaf (.list (.pair aa aa)))],[],[ad],by exact u19 gh⟩
theorem bl1 :Rt ym:=rq ((.n .no (.n (.jn [] [] [⟨.normal,[34],⟨[o],[],[]⟩⟩] .no .no) (.n .no (.n .no (.sz 12 (.n .no (.n .no (.sz 16 (.n (.sz 16 (.jn [] [] [ak] .no .no) (.sz 3015 (.jn [] [] [ak] .no .no) (.jn [] [] [ak] .no .no))) (.n (.n .no (.n (.sz 16 (.lp [0,1,2,10,11,15] bc [⟨(.exit 0),[],⟨[],[k,k,az,m,b,v],[]⟩⟩] .no) (.sz 3015 (.lp [0,1,2,9,10,14] bd [⟨(.exit 0),[],⟨[],[k,k,ay,m,b,v],[]⟩⟩] .no) (.lp [0,1,5] ⟨.normal,[13],⟨[a],[k,k,v],[]⟩⟩ [⟨(.exit 0),[],⟨[],[k,k,v],[]⟩⟩] .no))) .no)) (.n .no (.n .no (.sz 27 .no (.sz 18026 .no (.sz 17 .no (.sz 3026 .no (.sz 20025 .no (.sz 3016 .no (.sz 16 .no (.sz 7015 .no .no)))))))))))) (.sz 3015 (.n (.sz 16 (.jn [] [] [ak] .no .no) (.sz 3015 (.jn [] [] [ak] .no .no) (.jn [] [] [ak] .no .no))) (.n (.n .no (.n (.sz 16 (.lp [0,1,2,10,11,15] bc [⟨(.exit 0),[],⟨[],[k,k,az,m,b,v],[]⟩⟩] .no) (.sz 3015 (.lp [0,1,2,9,10,14] bd [⟨(.exit 0),[],⟨[],[k,k,ay,m,b,v],[]⟩⟩] .no) (.lp [0,1,5] ⟨.normal,[13],⟨[a],[k,k,v],[]⟩⟩ [⟨(.exit 0),[],⟨[],[k,k,v],[]⟩⟩] .no))) .no)) (.n .no (.n .no (.sz 27 .no (.sz 18026 .no (.sz 17 .no (.sz 3026 .no (.sz 20025 .no (.sz 3016 .no (.sz 16 .no (.sz 7015 .no .no)))))))))))) (.n (.sz 16 (.jn [] [] [ak] .no .no) (.sz 3015 (.jn [] [] [ak] .no .no) (.jn [] [] [ak] .no .no))) (.n (.n .no (.n (.sz 16 (.lp [0,1,2,10,11,15] bc [⟨(.exit 0),[],⟨[],[k,k,az,m,b,v],[]⟩⟩] .no) (.sz 3015 (.lp [0,1,2,9,10,14] bd [⟨(.exit 0),[],⟨[],[k,k,ay,m,b,v],[]⟩⟩] .no) (.lp [0,1,5] ⟨.normal,[13],⟨[a],[k,k,v],[]⟩⟩ [⟨(.exit 0),[],⟨[],[k,k,v],[]⟩⟩] .no))) .no)) (.n .no (.n .no (.sz 27 .no (.sz 18026 .no (.sz 17 .no (.sz 3026 .no (.sz 20025 .no (.sz 3016 .no (.sz 16 .no (.sz 7015 .no .no)))))))))))))))) (.sz 3011 (.n .no (.n .no (.sz 16 (.n (.sz 16 (.jn [] [] [ak] .no .no) (.sz 3015 (.jn [] [] [ak] .no .no) (.jn [] [] [ak] .no .no))) (.n (.n .no (.n (.sz 16 (.lp [0,1,2,10,11,15] bc [⟨(.exit 0),[],⟨[],[k,k,az,m,b,v],[]⟩⟩] .no) (.sz 3015 (.lp [0,1,2,9,10,14] bd [⟨(.exit 0),[],⟨[],[k,k,ay,m,b,v],[]⟩⟩] .no) (.lp [0,1,5] ⟨.normal,[13],⟨[a],[k,k,v],[]⟩⟩ [⟨(.exit 0),[],⟨[],[k,k,v],[]⟩⟩] .no))) .no)) (.n .no (.n .no (.sz 27 .no (.sz 18026 .no (.sz 17 .no (.sz 3026 .no (.sz 20025 .no (.sz 3016 .no (.sz 16 .no (.sz 7015 .no .no)))))))))))) (.sz 3015 (.n (.sz 16 (.jn [] [] [ak] .no .no) (.sz 3015 (.jn [] [] [ak] .no .no) (.jn [] [] [ak] .no .no))) (.n (.n .no (.n (.sz 16 (.lp [0,1,2,10,11,15] bc [⟨(.exit 0),[],⟨[],[k,k,az,m,b,v],[]⟩⟩] .no) (.sz 3015 (.lp [0,1,2,9,10,14] bd [⟨(.exit 0),[],⟨[],[k,k,ay,m,b,v],[]⟩⟩] .no) (.lp [0,1,5] ⟨.normal,[13],⟨[a],[k,k,v],[]⟩⟩ [⟨(.exit 0),[],⟨[],[k,k,v],[]⟩⟩] .no))) .no)) (.n .no (.n .no (.sz 27 .no (.sz 18026 .no (.sz 17 .no (.sz 3026 .no (.sz 20025 .no (.sz 3016 .no (.sz 16 .no (.sz 7015 .no .no)))))))))))) (.n (.sz 16 (.jn [] [] [ak] .no .no) (.sz 3015 (.jn [] [] [ak] .no .no) (.jn [] [] [ak] .no .no))) (.n (.n .no (.n (.sz 16 (.lp [0,1,2,10,11,15] bc [⟨(.exit 0),[],⟨[],[k,k,az,m,b,v],[]⟩⟩] .no) (.sz 3015 (.lp [0,1,2,9,10,14] bd [⟨(.exit 0),[],⟨[],[k,k,ay,m,b,v],[]⟩⟩] .no) (.lp [0,1,5] ⟨.normal,[13],⟨[a],[k,k,v],[]⟩⟩ [⟨(.exit 0),[],⟨[],[k,k,v],[]⟩⟩] .no))) .no)) (.n .no (.n .no (.sz 27 .no (.sz 18026 .no (.sz 17 .no (.sz 3026 .no (.sz 20025 .no (.sz 3016 .no (.sz 16 .no (.sz 7015 .no .no)))))))))))))))) (.n .no (.n .no (.sz 16 (.n (.sz 16 (.jn [] [] [ak] .no .no) (.sz 3015 (.jn [] [] [ak] .no .no) (.jn [] [] [ak] .no .no))) (.n (.n .no (.n (.sz 16 (.lp [0,1,2,10,11,15] bc [⟨(.exit 0),[],⟨[],[k,k,az,m,b,v],[]⟩⟩] .no) (.sz 3015 (.lp [0,1,2,9,10,14] bd [⟨(.exit 0),[],⟨[],[k,k,ay,m,b,v],[]⟩⟩] .no) (.lp [0,1,5] ⟨.normal,[13],⟨[a],[k,k,v],[]⟩⟩ [⟨(.exit 0),[],⟨[],[k,k,v],[]⟩⟩] .no))) .no)) (.n .no (.n .no (.sz 27 .no (.sz 18026 .no (.sz 17 .no (.sz 3026 .no (.sz 20025 .no (.sz 3016 .no (.sz 16 .no (.sz 7015 .no .no)))))))))))) (.sz 3015 (.n (.sz 16 (.jn [] [] [ak] .no .no) (.sz 3015 (.jn [] [] [ak] .no .no) (.jn [] [] [ak] .no .no))) (.n (.n .no (.n (.sz 16 (.lp [0,1,2,10,11,15] bc [⟨(.exit 0),[],⟨[],[k,k,az,m,b,v],[]⟩⟩] .no) (.sz 3015 (.lp [0,1,2,9,10,14] bd [⟨(.exit 0),[],⟨[],[k,k,ay,m,b,v],[]⟩⟩] .no) (.lp [0,1,5] ⟨.normal,[13],⟨[a],[k,k,v],[]⟩⟩ [⟨(.exit 0),[],⟨[],[k,k,v],[]⟩⟩] .no))) .no)) (.n .no (.n .no (.sz 27 .no (.sz 18026 .no (.sz 17 .no (.sz 3026 .no (.sz 20025 .no (.sz 3016 .no (.sz 16 .no (.sz 7015 .no .no)))))))))))) (.n (.sz 16 (.jn [] [] [ak] .no .no) (.sz 3015 (.jn [] [] [ak] .no .no) (.jn [] [] [ak] .no .no))) (.n (.n .no (.n (.sz 16 (.lp [0,1,2,10,11,15] bc [⟨(.exit 0),[],⟨[],[k,k,az,m,b,v],[]⟩⟩] .no) (.sz 3015 (.lp [0,1,2,9,10,14] bd [⟨(.exit 0),[],⟨[],[k,k,ay,m,b,v],[]⟩⟩] .no) (.lp [0,1,5] ⟨.normal,[13],⟨[a],[k,k,v],[]⟩⟩ [⟨(.exit 0),[],⟨[],[k,k,v],[]⟩⟩] .no))) .no)) (.n .no (.n .no (.sz 27 .no (.sz 18026 .no (.sz 17 .no (.sz 3026 .no (.sz 20025 .no (.sz 3016 .no (.sz 16 .no (.sz 7015 .no .no))))))))))))))))))))))) (.cons cd4 (.cons cr6 (.cons cB8 (.cons bK8 (.cons cC3 (.cons cr5 (.cons cd2 (.cons cN5 (.cons bt4 (.cons ag5 (.cons bL1 (.cons an9 (.cons bt9 (.cons ct3 (.cons zf (.cons ag4 (.cons cr4 (.cons bt5 (.nil _))))))))))))))))))) λ_=>by kernel_rfl
end
end Go.V
