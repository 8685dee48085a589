/- A part of the proofs of this claim: what functions of the program answer on an abstract machine, and plain laws. No condition. -/
import Derived.Test.YtgigjokffalgkaaGreatD2
import Derived.Test.YtgigjokffalgkaaGreatRows
import Derived.KernelRfl
set_option linter.unusedVariables false
set_option linter.unusedSimpArgs false
set_option linter.unusedSectionVars false
namespace Go.V
open Go.Ab Go.Proofs
open Option renaming some->C,none->O
open Bool renaming true->Za,false->Zb
open Decidable renaming decide->Zc
section
open Tryz renaming prog -> aB
abbrev u2 {a b c:Type}(f:a->b->c)(t:a×b):c:=f t.1 t.2
abbrev u3 {x0 x1 x2 x3:Type}(f:x0->x1->x2->x3)(t:x0×x1×x2):x3:=u2 (f t.1) t.2
abbrev u4 {x0 x1 x2 x3 x4:Type}(f:x0->x1->x2->x3->x4)(t:x0×x1×x2×x3):x4:=u3 (f t.1) t.2
abbrev u5 {x0 x1 x2 x3 x4 x5:Type}(f:x0->x1->x2->x3->x4->x5)(t:x0×x1×x2×x3×x4):x5:=u4 (f t.1) t.2
abbrev u6 {x0 x1 x2 x3 x4 x5 x6:Type}(f:x0->x1->x2->x3->x4->x5->x6)(t:x0×x1×x2×x3×x4×x5):x6:=u5 (f t.1) t.2
abbrev u7 {x0 x1 x2 x3 x4 x5 x6 x7:Type}(f:x0->x1->x2->x3->x4->x5->x6->x7)(t:x0×x1×x2×x3×x4×x5×x6):x7:=u6 (f t.1) t.2
abbrev u8 {x0 x1 x2 x3 x4 x5 x6 x7 x8:Type}(f:x0->x1->x2->x3->x4->x5->x6->x7->x8)(t:x0×x1×x2×x3×x4×x5×x6×x7):x8:=u7 (f t.1) t.2
abbrev u9 {x0 x1 x2 x3 x4 x5 x6 x7 x8 x9:Type}(f:x0->x1->x2->x3->x4->x5->x6->x7->x8->x9)(t:x0×x1×x2×x3×x4×x5×x6×x7×x8):x9:=u8 (f t.1) t.2
abbrev u10 {x0 x1 x2 x3 x4 x5 x6 x7 x8 x9 x10:Type}(f:x0->x1->x2->x3->x4->x5->x6->x7->x8->x9->x10)(t:x0×x1×x2×x3×x4×x5×x6×x7×x8×x9):x10:=u9 (f t.1) t.2
abbrev u11 {x0 x1 x2 x3 x4 x5 x6 x7 x8 x9 x10 x11:Type}(f:x0->x1->x2->x3->x4->x5->x6->x7->x8->x9->x10->x11)(t:x0×x1×x2×x3×x4×x5×x6×x7×x8×x9×x10):x11:=u10 (f t.1) t.2
abbrev u12 {x0 x1 x2 x3 x4 x5 x6 x7 x8 x9 x10 x11 x12:Type}(f:x0->x1->x2->x3->x4->x5->x6->x7->x8->x9->x10->x11->x12)(t:x0×x1×x2×x3×x4×x5×x6×x7×x8×x9×x10×x11):x12:=u11 (f t.1) t.2
abbrev u13 {x0 x1 x2 x3 x4 x5 x6 x7 x8 x9 x10 x11 x12 x13:Type}(f:x0->x1->x2->x3->x4->x5->x6->x7->x8->x9->x10->x11->x12->x13)(t:x0×x1×x2×x3×x4×x5×x6×x7×x8×x9×x10×x11×x12):x13:=u12 (f t.1) t.2
abbrev u14 {x0 x1 x2 x3 x4 x5 x6 x7 x8 x9 x10 x11 x12 x13 x14:Type}(f:x0->x1->x2->x3->x4->x5->x6->x7->x8->x9->x10->x11->x12->x13->x14)(t:x0×x1×x2×x3×x4×x5×x6×x7×x8×x9×x10×x11×x12×x13):x14:=u13 (f t.1) t.2
abbrev u15 {x0 x1 x2 x3 x4 x5 x6 x7 x8 x9 x10 x11 x12 x13 x14 x15:Type}(f:x0->x1->x2->x3->x4->x5->x6->x7->x8->x9->x10->x11->x12->x13->x14->x15)(t:x0×x1×x2×x3×x4×x5×x6×x7×x8×x9×x10×x11×x12×x13×x14):x15:=u14 (f t.1) t.2
abbrev u16 {x0 x1 x2 x3 x4 x5 x6 x7 x8 x9 x10 x11 x12 x13 x14 x15 x16:Type}(f:x0->x1->x2->x3->x4->x5->x6->x7->x8->x9->x10->x11->x12->x13->x14->x15->x16)(t:x0×x1×x2×x3×x4×x5×x6×x7×x8×x9×x10×x11×x12×x13×x14×x15):x16:=u15 (f t.1) t.2
abbrev u17 {x0 x1 x2 x3 x4 x5 x6 x7 x8 x9 x10 x11 x12 x13 x14 x15 x16 x17:Type}(f:x0->x1->x2->x3->x4->x5->x6->x7->x8->x9->x10->x11->x12->x13->x14->x15->x16->x17)(t:x0×x1×x2×x3×x4×x5×x6×x7×x8×x9×x10×x11×x12×x13×x14×x15×x16):x17:=u16 (f t.1) t.2
abbrev u18 {x0 x1 x2 x3 x4 x5 x6 x7 x8 x9 x10 x11 x12 x13 x14 x15 x16 x17 x18:Type}(f:x0->x1->x2->x3->x4->x5->x6->x7->x8->x9->x10->x11->x12->x13->x14->x15->x16->x17->x18)(t:x0×x1×x2×x3×x4×x5×x6×x7×x8×x9×x10×x11×x12×x13×x14×x15×x16×x17):x18:=u17 (f t.1) t.2
abbrev u19 {x0 x1 x2 x3 x4 x5 x6 x7 x8 x9 x10 x11 x12 x13 x14 x15 x16 x17 x18 x19:Type}(f:x0->x1->x2->x3->x4->x5->x6->x7->x8->x9->x10->x11->x12->x13->x14->x15->x16->x17->x18->x19)(t:x0×x1×x2×x3×x4×x5×x6×x7×x8×x9×x10×x11×x12×x13×x14×x15×x16×x17×x18):x19:=u18 (f t.1) t.2
abbrev u20 {x0 x1 x2 x3 x4 x5 x6 x7 x8 x9 x10 x11 x12 x13 x14 x15 x16 x17 x18 x19 x20:Type}(f:x0->x1->x2->x3->x4->x5->x6->x7->x8->x9->x10->x11->x12->x13->x14->x15->x16->x17->x18->x19->x20)(t:x0×x1×x2×x3×x4×x5×x6×x7×x8×x9×x10×x11×x12×x13×x14×x15×x16×x17×x18×x19):x20:=u19 (f t.1) t.2
abbrev u21 {x0 x1 x2 x3 x4 x5 x6 x7 x8 x9 x10 x11 x12 x13 x14 x15 x16 x17 x18 x19 x20 x21:Type}(f:x0->x1->x2->x3->x4->x5->x6->x7->x8->x9->x10->x11->x12->x13->x14->x15->x16->x17->x18->x19->x20->x21)(t:x0×x1×x2×x3×x4×x5×x6×x7×x8×x9×x10×x11×x12×x13×x14×x15×x16×x17×x18×x19×x20):x21:=u20 (f t.1) t.2
abbrev u22 {x0 x1 x2 x3 x4 x5 x6 x7 x8 x9 x10 x11 x12 x13 x14 x15 x16 x17 x18 x19 x20 x21 x22:Type}(f:x0->x1->x2->x3->x4->x5->x6->x7->x8->x9->x10->x11->x12->x13->x14->x15->x16->x17->x18->x19->x20->x21->x22)(t:x0×x1×x2×x3×x4×x5×x6×x7×x8×x9×x10×x11×x12×x13×x14×x15×x16×x17×x18×x19×x20×x21):x22:=u21 (f t.1) t.2
abbrev u23 {x0 x1 x2 x3 x4 x5 x6 x7 x8 x9 x10 x11 x12 x13 x14 x15 x16 x17 x18 x19 x20 x21 x22 x23:Type}(f:x0->x1->x2->x3->x4->x5->x6->x7->x8->x9->x10->x11->x12->x13->x14->x15->x16->x17->x18->x19->x20->x21->x22->x23)(t:x0×x1×x2×x3×x4×x5×x6×x7×x8×x9×x10×x11×x12×x13×x14×x15×x16×x17×x18×x19×x20×x21×x22):x23:=u22 (f t.1) t.2
abbrev u24 {x0 x1 x2 x3 x4 x5 x6 x7 x8 x9 x10 x11 x12 x13 x14 x15 x16 x17 x18 x19 x20 x21 x22 x23 x24:Type}(f:x0->x1->x2->x3->x4->x5->x6->x7->x8->x9->x10->x11->x12->x13->x14->x15->x16->x17->x18->x19->x20->x21->x22->x23->x24)(t:x0×x1×x2×x3×x4×x5×x6×x7×x8×x9×x10×x11×x12×x13×x14×x15×x16×x17×x18×x19×x20×x21×x22×x23):x24:=u23 (f t.1) t.2
abbrev u25 {x0 x1 x2 x3 x4 x5 x6 x7 x8 x9 x10 x11 x12 x13 x14 x15 x16 x17 x18 x19 x20 x21 x22 x23 x24 x25:Type}(f:x0->x1->x2->x3->x4->x5->x6->x7->x8->x9->x10->x11->x12->x13->x14->x15->x16->x17->x18->x19->x20->x21->x22->x23->x24->x25)(t:x0×x1×x2×x3×x4×x5×x6×x7×x8×x9×x10×x11×x12×x13×x14×x15×x16×x17×x18×x19×x20×x21×x22×x23×x24):x25:=u24 (f t.1) t.2
abbrev u26 {x0 x1 x2 x3 x4 x5 x6 x7 x8 x9 x10 x11 x12 x13 x14 x15 x16 x17 x18 x19 x20 x21 x22 x23 x24 x25 x26:Type}(f:x0->x1->x2->x3->x4->x5->x6->x7->x8->x9->x10->x11->x12->x13->x14->x15->x16->x17->x18->x19->x20->x21->x22->x23->x24->x25->x26)(t:x0×x1×x2×x3×x4×x5×x6×x7×x8×x9×x10×x11×x12×x13×x14×x15×x16×x17×x18×x19×x20×x21×x22×x23×x24×x25):x26:=u25 (f t.1) t.2
abbrev u27 {x0 x1 x2 x3 x4 x5 x6 x7 x8 x9 x10 x11 x12 x13 x14 x15 x16 x17 x18 x19 x20 x21 x22 x23 x24 x25 x26 x27:Type}(f:x0->x1->x2->x3->x4->x5->x6->x7->x8->x9->x10->x11->x12->x13->x14->x15->x16->x17->x18->x19->x20->x21->x22->x23->x24->x25->x26->x27)(t:x0×x1×x2×x3×x4×x5×x6×x7×x8×x9×x10×x11×x12×x13×x14×x15×x16×x17×x18×x19×x20×x21×x22×x23×x24×x25×x26):x27:=u26 (f t.1) t.2
abbrev u28 {x0 x1 x2 x3 x4 x5 x6 x7 x8 x9 x10 x11 x12 x13 x14 x15 x16 x17 x18 x19 x20 x21 x22 x23 x24 x25 x26 x27 x28:Type}(f:x0->x1->x2->x3->x4->x5->x6->x7->x8->x9->x10->x11->x12->x13->x14->x15->x16->x17->x18->x19->x20->x21->x22->x23->x24->x25->x26->x27->x28)(t:x0×x1×x2×x3×x4×x5×x6×x7×x8×x9×x10×x11×x12×x13×x14×x15×x16×x17×x18×x19×x20×x21×x22×x23×x24×x25×x26×x27):x28:=u27 (f t.1) t.2
abbrev u29 {x0 x1 x2 x3 x4 x5 x6 x7 x8 x9 x10 x11 x12 x13 x14 x15 x16 x17 x18 x19 x20 x21 x22 x23 x24 x25 x26 x27 x28 x29:Type}(f:x0->x1->x2->x3->x4->x5->x6->x7->x8->x9->x10->x11->x12->x13->x14->x15->x16->x17->x18->x19->x20->x21->x22->x23->x24->x25->x26->x27->x28->x29)(t:x0×x1×x2×x3×x4×x5×x6×x7×x8×x9×x10×x11×x12×x13×x14×x15×x16×x17×x18×x19×x20×x21×x22×x23×x24×x25×x26×x27×x28):x29:=u28 (f t.1) t.2
abbrev u30 {x0 x1 x2 x3 x4 x5 x6 x7 x8 x9 x10 x11 x12 x13 x14 x15 x16 x17 x18 x19 x20 x21 x22 x23 x24 x25 x26 x27 x28 x29 x30:Type}(f:x0->x1->x2->x3->x4->x5->x6->x7->x8->x9->x10->x11->x12->x13->x14->x15->x16->x17->x18->x19->x20->x21->x22->x23->x24->x25->x26->x27->x28->x29->x30)(t:x0×x1×x2×x3×x4×x5×x6×x7×x8×x9×x10×x11×x12×x13×x14×x15×x16×x17×x18×x19×x20×x21×x22×x23×x24×x25×x26×x27×x28×x29):x30:=u29 (f t.1) t.2
abbrev u31 {x0 x1 x2 x3 x4 x5 x6 x7 x8 x9 x10 x11 x12 x13 x14 x15 x16 x17 x18 x19 x20 x21 x22 x23 x24 x25 x26 x27 x28 x29 x30 x31:Type}(f:x0->x1->x2->x3->x4->x5->x6->x7->x8->x9->x10->x11->x12->x13->x14->x15->x16->x17->x18->x19->x20->x21->x22->x23->x24->x25->x26->x27->x28->x29->x30->x31)(t:x0×x1×x2×x3×x4×x5×x6×x7×x8×x9×x10×x11×x12×x13×x14×x15×x16×x17×x18×x19×x20×x21×x22×x23×x24×x25×x26×x27×x28×x29×x30):x31:=u30 (f t.1) t.2
abbrev u32 {x0 x1 x2 x3 x4 x5 x6 x7 x8 x9 x10 x11 x12 x13 x14 x15 x16 x17 x18 x19 x20 x21 x22 x23 x24 x25 x26 x27 x28 x29 x30 x31 x32:Type}(f:x0->x1->x2->x3->x4->x5->x6->x7->x8->x9->x10->x11->x12->x13->x14->x15->x16->x17->x18->x19->x20->x21->x22->x23->x24->x25->x26->x27->x28->x29->x30->x31->x32)(t:x0×x1×x2×x3×x4×x5×x6×x7×x8×x9×x10×x11×x12×x13×x14×x15×x16×x17×x18×x19×x20×x21×x22×x23×x24×x25×x26×x27×x28×x29×x30×x31):x32:=u31 (f t.1) t.2
abbrev u33 {x0 x1 x2 x3 x4 x5 x6 x7 x8 x9 x10 x11 x12 x13 x14 x15 x16 x17 x18 x19 x20 x21 x22 x23 x24 x25 x26 x27 x28 x29 x30 x31 x32 x33:Type}(f:x0->x1->x2->x3->x4->x5->x6->x7->x8->x9->x10->x11->x12->x13->x14->x15->x16->x17->x18->x19->x20->x21->x22->x23->x24->x25->x26->x27->x28->x29->x30->x31->x32->x33)(t:x0×x1×x2×x3×x4×x5×x6×x7×x8×x9×x10×x11×x12×x13×x14×x15×x16×x17×x18×x19×x20×x21×x22×x23×x24×x25×x26×x27×x28×x29×x30×x31×x32):x33:=u32 (f t.1) t.2
abbrev u34 {x0 x1 x2 x3 x4 x5 x6 x7 x8 x9 x10 x11 x12 x13 x14 x15 x16 x17 x18 x19 x20 x21 x22 x23 x24 x25 x26 x27 x28 x29 x30 x31 x32 x33 x34:Type}(f:x0->x1->x2->x3->x4->x5->x6->x7->x8->x9->x10->x11->x12->x13->x14->x15->x16->x17->x18->x19->x20->x21->x22->x23->x24->x25->x26->x27->x28->x29->x30->x31->x32->x33->x34)(t:x0×x1×x2×x3×x4×x5×x6×x7×x8×x9×x10×x11×x12×x13×x14×x15×x16×x17×x18×x19×x20×x21×x22×x23×x24×x25×x26×x27×x28×x29×x30×x31×x32×x33):x34:=u33 (f t.1) t.2
abbrev u35 {x0 x1 x2 x3 x4 x5 x6 x7 x8 x9 x10 x11 x12 x13 x14 x15 x16 x17 x18 x19 x20 x21 x22 x23 x24 x25 x26 x27 x28 x29 x30 x31 x32 x33 x34 x35:Type}(f:x0->x1->x2->x3->x4->x5->x6->x7->x8->x9->x10->x11->x12->x13->x14->x15->x16->x17->x18->x19->x20->x21->x22->x23->x24->x25->x26->x27->x28->x29->x30->x31->x32->x33->x34->x35)(t:x0×x1×x2×x3×x4×x5×x6×x7×x8×x9×x10×x11×x12×x13×x14×x15×x16×x17×x18×x19×x20×x21×x22×x23×x24×x25×x26×x27×x28×x29×x30×x31×x32×x33×x34):x35:=u34 (f t.1) t.2
abbrev u36 {x0 x1 x2 x3 x4 x5 x6 x7 x8 x9 x10 x11 x12 x13 x14 x15 x16 x17 x18 x19 x20 x21 x22 x23 x24 x25 x26 x27 x28 x29 x30 x31 x32 x33 x34 x35 x36:Type}(f:x0->x1->x2->x3->x4->x5->x6->x7->x8->x9->x10->x11->x12->x13->x14->x15->x16->x17->x18->x19->x20->x21->x22->x23->x24->x25->x26->x27->x28->x29->x30->x31->x32->x33->x34->x35->x36)(t:x0×x1×x2×x3×x4×x5×x6×x7×x8×x9×x10×x11×x12×x13×x14×x15×x16×x17×x18×x19×x20×x21×x22×x23×x24×x25×x26×x27×x28×x29×x30×x31×x32×x33×x34×x35):x36:=u35 (f t.1) t.2
abbrev u37 {x0 x1 x2 x3 x4 x5 x6 x7 x8 x9 x10 x11 x12 x13 x14 x15 x16 x17 x18 x19 x20 x21 x22 x23 x24 x25 x26 x27 x28 x29 x30 x31 x32 x33 x34 x35 x36 x37:Type}(f:x0->x1->x2->x3->x4->x5->x6->x7->x8->x9->x10->x11->x12->x13->x14->x15->x16->x17->x18->x19->x20->x21->x22->x23->x24->x25->x26->x27->x28->x29->x30->x31->x32->x33->x34->x35->x36->x37)(t:x0×x1×x2×x3×x4×x5×x6×x7×x8×x9×x10×x11×x12×x13×x14×x15×x16×x17×x18×x19×x20×x21×x22×x23×x24×x25×x26×x27×x28×x29×x30×x31×x32×x33×x34×x35×x36):x37:=u36 (f t.1) t.2
abbrev u38 {x0 x1 x2 x3 x4 x5 x6 x7 x8 x9 x10 x11 x12 x13 x14 x15 x16 x17 x18 x19 x20 x21 x22 x23 x24 x25 x26 x27 x28 x29 x30 x31 x32 x33 x34 x35 x36 x37 x38:Type}(f:x0->x1->x2->x3->x4->x5->x6->x7->x8->x9->x10->x11->x12->x13->x14->x15->x16->x17->x18->x19->x20->x21->x22->x23->x24->x25->x26->x27->x28->x29->x30->x31->x32->x33->x34->x35->x36->x37->x38)(t:x0×x1×x2×x3×x4×x5×x6×x7×x8×x9×x10×x11×x12×x13×x14×x15×x16×x17×x18×x19×x20×x21×x22×x23×x24×x25×x26×x27×x28×x29×x30×x31×x32×x33×x34×x35×x36×x37):x38:=u37 (f t.1) t.2
abbrev u39 {x0 x1 x2 x3 x4 x5 x6 x7 x8 x9 x10 x11 x12 x13 x14 x15 x16 x17 x18 x19 x20 x21 x22 x23 x24 x25 x26 x27 x28 x29 x30 x31 x32 x33 x34 x35 x36 x37 x38 x39:Type}(f:x0->x1->x2->x3->x4->x5->x6->x7->x8->x9->x10->x11->x12->x13->x14->x15->x16->x17->x18->x19->x20->x21->x22->x23->x24->x25->x26->x27->x28->x29->x30->x31->x32->x33->x34->x35->x36->x37->x38->x39)(t:x0×x1×x2×x3×x4×x5×x6×x7×x8×x9×x10×x11×x12×x13×x14×x15×x16×x17×x18×x19×x20×x21×x22×x23×x24×x25×x26×x27×x28×x29×x30×x31×x32×x33×x34×x35×x36×x37×x38):x39:=u38 (f t.1) t.2
abbrev Rt :=wv aB
theorem rq {P:Program}{f:FuncId}{tab:List FSum}{vals:List Sk}{objs:List OSk}{outs:List Alt}{run:Tup (yj.shs ⟨vals,[],objs⟩)->Option (vk outs)}(at':AT)(ht:jW P tab)(he: ∀t,bu0 P f ⟨tab,[]⟩ vals objs outs at' t=run t):wv P ⟨f,vals,objs,outs,run⟩:=cX9 ht he
abbrev NS :Sk:= .nils
set_option maxRecDepth 100000
abbrev ad :Sh:=(.int .i64)
abbrev av :Sh:=(.int .u64)
abbrev bf :Sh:=(.list av)
abbrev v :Sh:=(.list ad)
abbrev aw :Sh:=(.list bf)
abbrev bn :Sh:=(.pair ad av)
abbrev aq :Sh:=(.pair ad bf)
abbrev af :Sh:=(.list aq)
abbrev bo :Sh:=(.pair ad bn)
abbrev bp :Sh:=(.pair ad (.pair av ad))
abbrev bk :Sh:=(.pair ad bo)
abbrev bl :Sh:=(.pair ad bp)
abbrev x :Sh:=(.pair ad bk)
abbrev bm :Sh:=(.pair ad bl)
abbrev bj :Sh:=(.list x)
abbrev an :Sh:=(.pair ad bm)
abbrev h :Sk:=(.ptr 0 0)
abbrev a :Sk:=(.leaf ad)
abbrev j :Sk:=(.leaf bf)
abbrev c :Sk:=(.leaf av)
abbrev l :Sk:=(.leaf bj)
abbrev k :Sk:=(.leaf .bool)
abbrev g :Sk:=(.cint .i64 0)
abbrev ah :Sk:=(.tup [a,a])
abbrev aa :Sk:=(.agg [a,l])
abbrev ai :Sk:=(.tup [h,g])
abbrev ak :Sk:=(.agg [a,a,a,a,c])
abbrev be :Sk:=(.agg [a,a,(.leaf v),a,a,a,a,a])
abbrev y :Sk:=(.agg [a,j,j,a,l,a,l,a,a])
abbrev ax :Sk:=(.agg [c,c,c,c,c,c,c,c,c,c,c,c,c,c,c,c])
abbrev am :Sk:=(.agg [a,j,j,a,l,a,l,a,a,a,l,a,l,a,j,a,a,a,a,a,a,a,j,(.leaf af),a,(.leaf aw),j,j,c,a,a,a,a,a])
abbrev bi :Sk:=(.tup [am,a])
abbrev ba :Sk:=(.agg [a,j,j,a,l,a,l,a,a,a,l,a,l,a,j,a,a,a,a,a,a,a,j,(.leaf af),a,(.leaf aw),j,j,c,a,a,a,a,a,k,k])
abbrev d :OSk:=(.arr Za av)
abbrev o :OSk:=(.arr Za ad)
abbrev m :OSk:=(.arr Zb ad)
abbrev b :OSk:=(.arr Zb av)
abbrev i :OSk:=(.arr Za x)
abbrev ab :OSk:=(.cells 1 Za [(.full 9),a])
abbrev r :OSk:=(.cells 1 Za [a,a,a])
abbrev w :OSk:=(.cells 1 Zb [a,a,a])
abbrev ac :OSk:=(.cells 1 Za [a,a,a,(.ptr 6 0)])
abbrev al :OSk:=(.cells 1 Za [a,a,a,(.ptr 7 0)])
abbrev aj :OSk:=(.cells 1 Zb [a,a,a,a,(.full 1)])
abbrev ar :OSk:=(.cells 1 Za [(.ptr 1 0),a,(.fn 57 [] []),k,k])
abbrev bc :OSk:=(.cells 1 Zb [c,c,c,c,c,c,c,c])
abbrev ao :OSk:=(.cells 1 Zb [a,a,a,a,a,a,a,a])
abbrev ay :OSk:=(.cells 1 Za [a,a,(.leaf v),a,a,a,a,a])
abbrev bb :OSk:=(.cells 1 Zb [c,c,c,c,c,c,c,c,c,c,c,c,c,c,c,c])
abbrev bg :OSk:=(.cells 1 Za [a,a,a,a,a,(.full 1),(.full 2),a,(.full 3),a,(.full 4),a,a,(.full 5), .nilp, .nilp, .nilp,a,a,a,a,a,a,a,c])
abbrev au :OSk:=(.cells 1 Za [a,a,a,a,a,(.full 1),(.full 2),a,(.full 3),a,(.full 4),a,a,(.full 5),(.ptr 6 0), .nilp,(.ptr 7 0),a,a,a,a,a,a,a,c])
abbrev ag :OSk:=(.cells 1 Za [a,a,a,a,a,(.full 1),(.full 2),a,(.full 3),a,(.full 4),a,a,(.full 5),(.ptr 6 0),(.ptr 7 0),(.ptr 8 0),a,a,a,a,a,a,a,c])
abbrev ap :OSk:=(.cells 1 Za [a,a,a,a,a,(.full 2),(.full 3),a,(.full 4),a,(.full 5),a,a,(.full 6),(.ptr 7 0),(.ptr 8 0),(.ptr 9 0),a,a,a,a,a,a,a,c])
abbrev ae :OSk:=(.cells 1 Zb [a,a,a,a,a,(.full 1),(.full 2),a,(.full 3),a,(.full 4),a,a,(.full 5),(.ptr 6 0),(.ptr 7 0),(.ptr 8 0),a,a,a,a,a,a,a,c])
abbrev az :OSk:=(.cells 1 Zb [a,a,a,a,a,(.full 2),(.full 3),a,(.full 4),a,(.full 5),a,a,(.full 6),(.ptr 7 0),(.ptr 8 0),(.ptr 9 0),a,a,a,a,a,a,a,c])
abbrev bd :OSk:=(.cells 1 Zb [a,j,j,a,l,a,l,a,a,a,l,a,l,a,j,a,a,a,a,a,a,a,j,(.leaf af),a,(.leaf aw),j,j,c,a,a,a,a,a])
abbrev bh :OSk:=(.cells 1 Zb [g,NS,NS,g,NS,g,NS,g,g,g,NS,g,NS,g,NS,g,g,g,g,g,g,g,NS,NS,g,NS,NS,NS,(.cint .u64 0),g,g,g,g,g])
abbrev q :Alt:=⟨.ret,[],⟨[k],[],[]⟩⟩
abbrev p :Alt:=⟨.ret,[],⟨[a],[],[]⟩⟩
def bB4 :FSum:=⟨16,[y,a],[],[q],by exact u10 zY⟩
theorem bE7 :Rt bB4:=rq (.no) (.nil _) λ_=>by kernel_rfl
def bP5 :FSum:=⟨133,[l],[],[q],pw⟩
theorem ak0 :Rt bP5:=rq ((.n .no (.n .no (.n (.n .no (.n (.lp [] ⟨.normal,[4,3],⟨[a,a],[],[]⟩⟩ [⟨.ret,[2],⟨[k],[],[]⟩⟩,⟨(.exit 0),[3],⟨[a],[],[]⟩⟩] (.n .no (.n (.n (.n .no (.jn [] [] [⟨.normal,[3],⟨[a],[],[]⟩⟩] .no .no)) .no) .no))) .no)) .no)))) (.nil _) λ_=>by kernel_rfl
def bP3 :FSum:=⟨134,[a],[],[⟨.ret,[],⟨[(.agg [k,k,k,k])],[],[]⟩⟩],ik⟩
theorem tt :Rt bP3:=rq ((.n .no (.jn [0] [] [⟨.ret,[],⟨[],[(.cells 1 Zb [k,k,k,k])],[]⟩⟩,⟨.normal,[],⟨[],[(.cells 1 Zb [k,k,k,k])],[]⟩⟩] .no .no))) (.nil _) λ_=>by kernel_rfl
def bB9 :FSum:=⟨231,[ak],[],[q],by exact u5 uu⟩
theorem bF0 :Rt bB9:=rq ((.n .no (.n .no (.n .no (.n .no (.n (.n .no (.n (.lp [] ⟨.normal,[5],⟨[a],[],[]⟩⟩ [⟨.ret,[2],⟨[k],[],[]⟩⟩,⟨(.exit 0),[],⟨[],[],[]⟩⟩] .no) .no)) .no)))))) (.cons tt (.nil _)) λ_=>by kernel_rfl
def bP9 :FSum:=⟨173,[aa],[],[q],by exact u2 wJ⟩
theorem bV1 :Rt bP9:=rq ((.n .no (.n .no (.n (.n .no (.n (.lp [] ⟨.normal,[3],⟨[a],[],[]⟩⟩ [⟨.ret,[2],⟨[k],[],[]⟩⟩,⟨(.exit 0),[],⟨[],[],[]⟩⟩] .no) .no)) .no)))) (.cons ak0 (.cons bF0 (.nil _))) λ_=>by kernel_rfl
def aP7 :FSum:=⟨174,[aa],[],[q],by exact u2 oG⟩
theorem aQ9 :Rt aP7:=rq ((.n .no (.n .no (.n (.n .no (.n (.lp [] ⟨.normal,[3],⟨[a],[],[]⟩⟩ [⟨.ret,[2],⟨[k],[],[]⟩⟩,⟨(.exit 0),[],⟨[],[],[]⟩⟩] .no) .no)) .no)))) (.cons tt (.nil _)) λ_=>by kernel_rfl
def bn9 :FSum:=⟨232,[l,a],[],[p],by exact u2 sC⟩
theorem bp9 :Rt bn9:=rq ((.n .no (.n .no (.n (.n .no (.n (.lp [] ⟨.normal,[6,5],⟨[a,a],[],[]⟩⟩ [⟨(.exit 0),[5],⟨[a],[],[]⟩⟩] .no) .no)) .no)))) (.nil _) λ_=>by kernel_rfl
def bP4 :FSum:=⟨175,[l],[],[⟨.ret,[],⟨[ah],[],[]⟩⟩],wH⟩
theorem bU8 :Rt bP4:=rq ((.n .no (.n .no (.n .no (.n (.n .no (.n (.lp [] ⟨.normal,[5,4],⟨[a,a],[],[]⟩⟩ [⟨(.exit 0),[4],⟨[a],[],[]⟩⟩] .no) .no)) .no))))) (.cons ak0 (.cons bp9 (.nil _))) λ_=>by kernel_rfl
def bC0 :FSum:=⟨86,[l],[],[⟨.ret,[],⟨[(.tup [(.full 0),a])],[],[m]⟩⟩],jU⟩
theorem uA :Rt bC0:=rq ((.n .no (.n .no (.n .no (.n (.n .no (.n (.lp [] ⟨.normal,[5,4],⟨[a,(.full 1)],[],[m]⟩⟩ [⟨(.exit 0),[4],⟨[(.full 1)],[],[m]⟩⟩] .no) .no)) (.n (.n .no (.n (.lp [1] ⟨.normal,[6],⟨[a],[m],[]⟩⟩ [⟨(.exit 2),[],⟨[],[m],[]⟩⟩] (.n .no (.n (.n (.n .no (.n .no (.n .no (.n (.n (.lp [] ⟨.normal,[7,8],⟨[a,a],[],[]⟩⟩ [⟨(.exit 4),[8],⟨[a],[],[]⟩⟩] .no) .no) .no)))) .no) .no))) .no)) .no)))))) (.cons ak0 (.nil _)) λ_=>by kernel_rfl
def aW8 (n:Nat):FSum:=⟨88,[l,(.leaf v),a,a],[],[p],λt=>(cr n).1 t.1 t.2.1 t.2.2.1 t.2.2.2⟩
def bh8 (n:Nat):FSum:=⟨87,[l,(.leaf v),a],[],[p],λt=>(cr n).2 t.1 t.2.1 t.2.2⟩
theorem nJ : ∀n,wv aB (aW8 n)/\wv aB (bh8 n)
 |0=>⟨an0 (λt=>rfl),an0 (λt=>rfl)⟩
 |n+1=>⟨rq ((.n .no (.n .no (.n (.n .no (.n (.lp [] ⟨.normal,[10,9],⟨[a,a],[],[]⟩⟩ [⟨.ret,[8],⟨[(.cint .i64 65537)],[],[]⟩⟩,⟨(.exit 0),[9],⟨[a],[],[]⟩⟩] .no) .no)) .no)))) (.cons (nJ n).2 (.cons tt (.nil _))) (λ_=>by kernel_rfl),rq (.no) (.cons (nJ n).1 (.nil _)) (λ_=>by kernel_rfl)⟩
def bo1 :FSum:=⟨88,[l,(.leaf v),a,a],[],[p],by exact u4 mR⟩
theorem bq0 :Rt bo1:=(nJ 400).1
def bC1 :FSum:=⟨87,[l,(.leaf v),a],[],[p],by exact u3 mr⟩
theorem aI2 :Rt bC1:=(nJ 400).2
def bo0 :FSum:=⟨47,[l],[],[⟨.ret,[],⟨[ah],[],[]⟩⟩],kY⟩
theorem ye :Rt bo0:=rq ((.n .no (.n .no (.n .no (.n (.n .no (.n (.lp [] ⟨.normal,[6],⟨[a],[],[]⟩⟩ [⟨.ret,[2,3],⟨[g,(.cint .i64 9)],[],[]⟩⟩,⟨(.exit 0),[],⟨[],[],[]⟩⟩] .no) .no)) .no))))) (.cons uA (.cons aI2 (.cons bq0 (.nil _)))) λ_=>by kernel_rfl
def bP7 :FSum:=⟨132,[aa,a],[],[p],by exact u3 pz⟩
theorem aQ8 :Rt bP7:=rq (.no) (.cons bV1 (.cons aQ9 (.cons bU8 (.cons ye (.nil _))))) λ_=>by kernel_rfl
def bP8 :FSum:=⟨84,[aa,aa],[],[p],by exact u4 wI⟩
theorem bV0 :Rt bP8:=rq ((.n .no (.n (.n .no (.n (.lp [] ⟨.normal,[5],⟨[a],[],[]⟩⟩ [⟨.ret,[4],⟨[a],[],[]⟩⟩,⟨(.exit 0),[],⟨[],[],[]⟩⟩] .no) .no)) .no))) (.cons aQ8 (.nil _)) λ_=>by kernel_rfl
def bP6 :FSum:=⟨85,[aa,aa,a,a],[],[p],by exact u6 py⟩
theorem bU9 :Rt bP6:=rq (.no) (.nil _) λ_=>by kernel_rfl
def bD1 :FSum:=⟨46,[y],[],[p],by exact u9 qx⟩
theorem aI4 :Rt bD1:=rq (.no) (.cons bV0 (.cons bU9 (.nil _))) λ_=>by kernel_rfl
def cs7 :FSum:=⟨17,[y],[],[⟨.ret,[],⟨[ah],[],[]⟩⟩],by exact u9 ny⟩
theorem yf :Rt cs7:=rq (.no) (.cons aI4 (.cons ye (.nil _))) λ_=>by kernel_rfl
def bB5 :FSum:=⟨4,[y],[],[q],by exact u9 mq⟩
theorem bE8 :Rt bB5:=rq (.no) (.cons bE7 (.cons yf (.nil _))) λ_=>by kernel_rfl
def bh6 :FSum:=⟨19,[],[],[⟨.ret,[],⟨[(.agg [(.cint .i64 1),(.full 0),(.full 1),(.cint .i64 3),(.full 2),(.cint .i64 2),NS,(.cint .i64 3),(.cint .i64 100)])],[],[(.cells 1 Zb [(.cint .u64 5)]),(.cells 1 Zb [(.cint .u64 2)]),(.cells 5 Zb [(.cint .i64 1),g,g,(.cint .i64 2),(.cint .u64 0)])]⟩⟩],λ_=>ao1⟩
theorem bi8 :Rt bh6:=rq (.no) (.nil _) λ_=>by kernel_rfl
def bB3 :FSum:=⟨267,[k,a],[],[p],by exact u2 kO⟩
theorem ab3 :Rt bB3:=rq (.no) (.nil _) λ_=>by kernel_rfl
def au9 :FSum:=⟨233,[y],[],[p],by exact u9 jZ⟩
theorem aw6 :Rt au9:=rq (.no) (.cons ab3 (.nil _)) λ_=>by kernel_rfl
def bO9 :FSum:=⟨300,[l],[],[⟨.ret,[],⟨[(.tup [(.full 0),a])],[],[m]⟩⟩],lT⟩
theorem aj9 :Rt bO9:=dp (ins:=[⟨313,cx aB 313 ⟨[],[⟨314,cx aB 314 ⟨[],[]⟩ .no⟩]⟩ (.n .no (.n .no (.n .no (.n .no (.n (.n .no (.n (.lp [1,3] ⟨.normal,[11,5,6],⟨[a,(.full 4),k],[m,(.cells 1 Zb [(.full 5)])],[m,m]⟩⟩ [⟨(.exit 0),[6,5],⟨[k,(.full 4)],[m,(.cells 1 Zb [(.full 5)])],[m,m]⟩⟩] (.n .no (.n .no (.n (.n (.n .no (.jn [] [4] [⟨(.exit 0),[6,5],⟨[k,(.full 7)],[],[m]⟩⟩,⟨.normal,[5,6],⟨[(.full 7),k],[],[m]⟩⟩] (.n (.jn [] [] [⟨.normal,[16],⟨[k],[],[]⟩⟩] .no .no) .no) .no)) .no) .no)))) .no)) .no)))))⟩]) (at':= .no) (.nil _) (br.cons (cb (.nil _) (br.cons (cb (.nil _) (br.nil _)) (br.nil _))) (br.nil _)) λ_=>by kernel_rfl
def bO3 :FSum:=⟨287,[k,a],[],[p],by exact u2 i9⟩
theorem xh :Rt bO3:=rq (.no) (.nil _) λ_=>by kernel_rfl
def cf6 :FSum:=⟨315,[a],[],[⟨.ret,[],⟨[(.agg [k,k,k,k])],[],[]⟩⟩],rJ⟩
theorem bd2 :Rt cf6:=rq ((.n .no (.n (.n .no (.n (.jn [] [] [⟨.normal,[4],⟨[k],[],[]⟩⟩] .no (.n .no (.jn [] [] [⟨.normal,[9],⟨[k],[],[]⟩⟩] .no .no))) .no)) .no))) (.nil _) λ_=>by kernel_rfl
def bn5 :FSum:=⟨326,[a],[],[q],xI⟩
theorem bp7 :Rt bn5:=rq (.no) (.nil _) λ_=>by kernel_rfl
def aP6 :FSum:=⟨327,[a,k],[],[q],by exact u2 kl⟩
theorem aQ6 :Rt aP6:=rq (.no) (.nil _) λ_=>by kernel_rfl
def bn4 :FSum:=⟨319,[ak],[],[q],by exact u5 sy⟩
theorem bp6 :Rt bn4:=rq (.no) (.cons bd2 (.cons bp7 (.cons aQ6 (.nil _)))) λ_=>by kernel_rfl
def ag9 :FSum:=⟨318,[ak],[],[q],by exact u5 nr⟩
theorem ai4 :Rt ag9:=rq (.no) (.cons bp6 (.nil _)) λ_=>by kernel_rfl
def tj :FSum:=⟨328,[l,(.fn 318 [] [])],[],[p],jz⟩
theorem tw :Rt tj:=rq ((.n .no (.n (.n .no (.n (.lp [] ⟨.normal,[8],⟨[a],[],[]⟩⟩ [⟨.ret,[4],⟨[a],[],[]⟩⟩,⟨(.exit 0),[],⟨[],[],[]⟩⟩] .no) .no)) .no))) (.cons ai4 (.nil _)) λ_=>by kernel_rfl
def qB :FSum:=⟨320,[l,(.fn 318 [] [])],[],[q],i7⟩
theorem qD :Rt qB:=rq (.no) (.cons tw (.nil _)) λ_=>by kernel_rfl
def oZ :FSum:=⟨309,[aa],[],[p],by exact u2 je⟩
theorem ve :Rt oZ:=rq (.no) (.cons aj9 (.cons xh (.cons qD (.nil _)))) λ_=>by kernel_rfl
def aa7 :FSum:=⟨329,[(.full 0)],[m],[⟨.ret,[],⟨[(.tup [])],[m],[]⟩⟩],cm⟩
theorem ab7 :Rt aa7:=rq ((.n .no (.n (.lp [0] ⟨.normal,[2,3],⟨[a,a],[m],[]⟩⟩ [⟨(.exit 0),[],⟨[],[m],[]⟩⟩] .no) .no))) (.nil _) λ_=>by kernel_rfl
def bn3 :FSum:=⟨322,[ak],[],[⟨.ret,[],⟨[(.full 0)],[],[m]⟩⟩],by exact u5 sw⟩
theorem bp5 :Rt bn3:=rq ((.n .no (.n .no (.jn [] [] [⟨.normal,[3],⟨[(.full 1)],[],[m]⟩⟩] (.n .no (.n (.jn [] [] [⟨.normal,[3],⟨[(.full 1)],[],[m]⟩⟩,⟨(.exit 0),[3],⟨[NS],[],[]⟩⟩] (.n (.jn [] [] [⟨.normal,[],⟨[],[],[]⟩⟩,⟨(.exit 2),[],⟨[],[],[]⟩⟩,⟨(.exit 0),[],⟨[],[],[]⟩⟩] .no .no) .no) .no) .no)) .no)))) (.cons ab7 (.nil _)) λ_=>by kernel_rfl
def bh7 :FSum:=⟨303,[ak],[],[⟨.ret,[],⟨[(.tup [a,k])],[],[]⟩⟩],by exact u5 ko⟩
theorem ao6 :Rt bh7:=rq (.no) (.cons bd2 (.nil _)) λ_=>by kernel_rfl
def uW :FSum:=⟨323,[a,h],[(.cells 1 Za [a,l])],[q],by exact u3 jX⟩
theorem vg :Rt uW:=rq (.no) (.nil _) λ_=>by kernel_rfl
def xS :FSum:=⟨247,[(.leaf v),(.fn 323 [] [h])],[(.cells 1 Za [a,l])],[p],by exact u3 ld⟩
theorem yg :Rt xS:=rq ((.n .no (.n (.n .no (.n (.lp [] ⟨.normal,[8],⟨[a],[],[]⟩⟩ [⟨.ret,[4],⟨[a],[],[]⟩⟩,⟨(.exit 0),[],⟨[],[],[]⟩⟩] .no) .no)) .no))) (.cons vg (.nil _)) λ_=>by kernel_rfl
def vc :FSum:=⟨189,[(.leaf v),(.fn 323 [] [h])],[(.cells 1 Za [a,l])],[q],by exact u3 gb⟩
theorem vj :Rt vc:=rq (.no) (.cons yg (.nil _)) λ_=>by kernel_rfl
def xf :FSum:=⟨321,[ak,h],[(.cells 1 Za [a,l])],[q],by exact u7 jk⟩
theorem xi :Rt xf:=rq ((.n .no (.n .no (.jn [] [2] [⟨.normal,[4],⟨[(.full 3)],[],[m]⟩⟩] .no .no)))) (.cons bp5 (.cons ao6 (.cons vj (.nil _)))) λ_=>by kernel_rfl
def rp :FSum:=⟨328,[l,(.fn 321 [] [h])],[(.cells 1 Za [a,l])],[p],by exact u3 jd⟩
theorem rA :Rt rp:=rq ((.n .no (.n (.n .no (.n (.lp [] ⟨.normal,[8],⟨[a],[],[]⟩⟩ [⟨.ret,[4],⟨[a],[],[]⟩⟩,⟨(.exit 0),[],⟨[],[],[]⟩⟩] .no) .no)) .no))) (.cons xi (.nil _)) λ_=>by kernel_rfl
def pP :FSum:=⟨320,[l,(.fn 321 [] [h])],[(.cells 1 Za [a,l])],[q],by exact u3 io⟩
theorem pQ :Rt pP:=rq (.no) (.cons rA (.nil _)) λ_=>by kernel_rfl
def lK :FSum:=⟨310,[aa],[],[p],by exact u2 gc⟩
theorem qa :Rt lK:=rq (.no) (.cons xh (.cons pQ (.nil _))) λ_=>by kernel_rfl
def cf5 :FSum:=⟨324,[l],[],[⟨.ret,[],⟨[ah],[],[]⟩⟩],zk⟩
theorem ch5 :Rt cf5:=dp (ins:=[⟨313,cx aB 313 ⟨[],[⟨330,cx aB 330 ⟨[],[]⟩ .no⟩]⟩ (.n .no (.n .no (.n .no (.n .no (.n (.n .no (.n (.lp [1] ⟨.normal,[11,5,6],⟨[a,(.full 2),k],[(.cells 1 Zb [a])],[m]⟩⟩ [⟨(.exit 0),[6,5],⟨[k,(.full 2)],[(.cells 1 Zb [a])],[m]⟩⟩] (.n .no (.n .no (.n (.n (.n .no (.jn [] [2] [⟨(.exit 0),[6,5],⟨[k,(.full 4)],[],[m]⟩⟩,⟨.normal,[5,6],⟨[(.full 4),k],[],[m]⟩⟩] (.n (.jn [] [] [⟨.normal,[16],⟨[k],[],[]⟩⟩] .no .no) .no) .no)) .no) .no)))) .no)) .no)))))⟩]) (at':= .no) (.nil _) (br.cons (cb (.nil _) (br.cons (cb (.nil _) (br.nil _)) (br.nil _))) (br.nil _)) λ_=>by kernel_rfl
def ov :FSum:=⟨311,[aa],[],[p],by exact u2 iv⟩
theorem tW :Rt ov:=rq (.no) (.cons ch5 (.cons xh (.nil _))) λ_=>by kernel_rfl
def bT7 :FSum:=⟨301,[a,c],[],[⟨.ret,[],⟨[(.tup [a,k])],[],[]⟩⟩],by exact u2 sT⟩
theorem bX9 :Rt bT7:=rq (.no) (.nil _) λ_=>by kernel_rfl
def ct2 :FSum:=⟨302,[(.leaf v)],[],[p],xM⟩
theorem ct7 :Rt ct2:=rq ((.n .no (.n .no (.n (.n .no (.n (.lp [] ⟨.normal,[8,3],⟨[a,a],[],[]⟩⟩ [⟨(.exit 0),[3],⟨[a],[],[]⟩⟩] .no) .no)) .no)))) (.nil _) λ_=>by kernel_rfl
def bo9 :FSum:=⟨288,[l],[],[⟨.ret,[],⟨[(.tup [(.full 0),(.full 1),a,a])],[],[m,m]⟩⟩],lb⟩
theorem ax4 :Rt bo9:=rq ((.n .no (.n .no (.n (.dr [0,1,3,4,2,6,5,7]) (.n .no (.n .no (.n (.n .no (.n (.lp [1,2] ⟨.normal,[34,8,5],⟨[a,(.full 4),g],[m,m],[(.arr Zb (.pair ad ad))]⟩⟩ [⟨(.exit 0),[5,8],⟨[a,(.full 4)],[m,m],[(.arr Zb (.pair ad ad))]⟩⟩] .no) .no)) (.jn [] [] [⟨.normal,[5],⟨[a],[],[]⟩⟩] .no .no)))))))) (.cons aj9 (.cons bX9 (.cons ao6 (.cons ct7 (.nil _))))) λ_=>by kernel_rfl
def bE0 :FSum:=⟨270,[l],[],[⟨.ret,[],⟨[ah],[],[]⟩⟩],jq⟩
theorem uC :Rt bE0:=rq (.no) (.cons ax4 (.nil _)) λ_=>by kernel_rfl
def nD :FSum:=⟨312,[aa],[],[p],by exact u2 ig⟩
theorem tn :Rt nD:=rq (.no) (.cons uC (.nil _)) λ_=>by kernel_rfl
def bO2 :FSum:=⟨268,[aa,aa],[],[p],by exact u4 wE⟩
theorem bU3 :Rt bO2:=dp (ins:=[⟨286,cx aB 286 ⟨[oZ,lK,ov,nD],[⟨299,cx aB 299 ⟨[],[]⟩ .no⟩]⟩ (.n .no (.n .no (.n (.n .no (.n (.n .no (.n .no (.n .no .no))) .no)) (.n (.n .no (.n (.n (.n .no (.n .no (.n (.n (.n .no (.n .no (.n (.n .no (.n .no (.n .no .no))) .no))) .no) .no))) (.n (.n .no (.n .no (.n (.n (.n .no (.n .no (.n (.n .no (.n .no (.n .no .no))) .no))) .no) .no))) (.n (.n .no (.n .no (.n (.n (.n .no (.n .no (.n (.n .no (.n .no (.n .no .no))) .no))) .no) .no))) (.n (.n .no (.n .no (.n (.n (.n .no (.n .no (.n (.n .no (.n .no (.n .no .no))) .no))) .no) .no))) (.n .no .no))))) .no)) .no))))⟩]) (at':= .no) (.nil _) (br.cons (cb (.cons ve (.cons qa (.cons tW (.cons tn (.nil _))))) (br.cons (cb (.nil _) (br.nil _)) (br.nil _))) (br.nil _)) λ_=>by kernel_rfl
def aa6 :FSum:=⟨234,[y],[],[p],by exact u9 iz⟩
theorem ab4 :Rt aa6:=rq (.no) (.cons bU3 (.nil _)) λ_=>by kernel_rfl
def bO1 :FSum:=⟨269,[aa,aa,a,a],[],[p],by exact u6 sa⟩
theorem bU2 :Rt bO1:=rq ((.n .no (.jn [] [] [⟨.normal,[9],⟨[k],[],[]⟩⟩] .no .no))) (.cons xh (.nil _)) λ_=>by kernel_rfl
def au8 :FSum:=⟨235,[y],[],[p],by exact u9 jY⟩
theorem aw5 :Rt au8:=rq (.no) (.cons bU2 (.nil _)) λ_=>by kernel_rfl
def ah7 :FSum:=⟨236,[y],[],[p],by exact u9 jw⟩
theorem aj2 :Rt ah7:=rq ((.n .no (.n .no (.jn [] [] [⟨.normal,[3],⟨[a],[],[]⟩⟩] .no .no)))) (.cons ab3 (.nil _)) λ_=>by kernel_rfl
def ah6 :FSum:=⟨237,[y],[],[p],by exact u9 jv⟩
theorem aj1 :Rt ah6:=rq (.no) (.cons ab3 (.nil _)) λ_=>by kernel_rfl
def bm8 :FSum:=⟨176,[y],[],[p],by exact u9 oS⟩
theorem aw4 :Rt bm8:=rq ((.n .no (.n .no (.n (.n .no (.n (.lp [] ⟨.normal,[20],⟨[a],[],[]⟩⟩ [⟨.ret,[2],⟨[a],[],[]⟩⟩,⟨(.exit 0),[],⟨[],[],[]⟩⟩] .no) .no)) .no)))) (.cons aw6 (.cons ab4 (.cons aw5 (.cons aj2 (.cons aj1 (.nil _)))))) λ_=>by kernel_rfl
def cG8 :FSum:=⟨238,[y],[],[⟨.ret,[],⟨[ah],[],[]⟩⟩],by exact u9 ob⟩
theorem xA :Rt cG8:=rq (.no) (.cons aw4 (.cons uC (.nil _))) λ_=>by kernel_rfl
def bP0 :FSum:=⟨177,[y],[],[⟨.ret,[],⟨[(.agg [a,a,a,a,a,a,a,a,a])],[],[]⟩⟩],by exact u9 sB⟩
theorem aQ7 :Rt bP0:=rq ((.n .no (.n .no (.n .no (.n .no (.jn [] [] [⟨.normal,[7,8],⟨[a,a],[],[]⟩⟩] .no .no)))))) (.cons xA (.nil _)) λ_=>by kernel_rfl
def cs4 :FSum:=⟨179,[(.agg [a,a,a,a,a,a,a,a,a]),a],[],[⟨.ret,[],⟨[(.full 0)],[],[m]⟩⟩],by exact u10 xJ⟩
theorem bp8 :Rt cs4:=dp (ins:=[⟨239,cx aB 239 ⟨[],[]⟩ .no⟩]) (at':=(.n .no (.n .no (.n .no (.n .no (.n (.n .no (.n (.lp [1] ⟨.normal,[10,7],⟨[a,(.full 2)],[(.cells 1 Zb [a])],[m]⟩⟩ [⟨(.exit 0),[7],⟨[(.full 2)],[(.cells 1 Zb [a])],[m]⟩⟩] .no) .no)) .no)))))) (.nil _) (br.cons (cb (.nil _) (br.nil _)) (br.nil _)) λ_=>by kernel_rfl
def cf8 :FSum:=⟨178,[(.agg [a,a,a,a,a,a,a,a,a]),a],[],[p],by exact u10 uO⟩
theorem ch6 :Rt cf8:=rq (.no) (.cons bp8 (.nil _)) λ_=>by kernel_rfl
def cf7 :FSum:=⟨135,[y],[],[⟨.ret,[],⟨[(.tup [(.agg [a,a,a,a]),a])],[],[]⟩⟩],by exact u9 rK⟩
theorem bd3 :Rt cf7:=rq ((.n .no (.n .no (.n .no (.n .no (.jn [] [] [⟨.normal,[6],⟨[a],[],[]⟩⟩] .no (.n .no (.n .no (.n (.n .no (.n (.lp [3] ⟨.normal,[35],⟨[a],[(.cells 1 Zb [a,a,a,a])],[]⟩⟩ [⟨(.exit 0),[],⟨[],[(.cells 1 Zb [a,a,a,a])],[]⟩⟩] .no) .no)) .no))))))))) (.cons aw4 (.cons aQ7 (.cons ch6 (.nil _)))) λ_=>by kernel_rfl
def vI :FSum:=⟨136,[.leaf bj],[],yn x,gj⟩
theorem vK :Rt vI:=ay0 (es:=5) (bytes:=40) (z:=[(.int .i64 0),(.int .i64 0),(.int .i64 0),(.int .i64 0),(.int .u64 0)]) (s:=x) (by kernel_rfl) (λ_=>by kernel_rfl) (λ_=>by kernel_rfl) (by kernel_rfl)
def kt :FSum:=⟨45,[.leaf bf],[],yn av,cd⟩
theorem dw :Rt kt:=ay0 (es:=1) (bytes:=8) (z:=[(.int .u64 0)]) (s:=av) (by kernel_rfl) (λ_=>by kernel_rfl) (λ_=>by kernel_rfl) (by kernel_rfl)
def bB6 :FSum:=⟨137,[y],[],[⟨.ret,[],⟨[(.tup [(.full 0),a])],[],[m]⟩⟩],by exact u9 oc⟩
theorem bE9 :Rt bB6:=rq (.no) (.cons bd3 (.cons aQ7 (.cons bp8 (.nil _)))) λ_=>by kernel_rfl
def bA5 :FSum:=⟨89,[y],[],[⟨.ret,[],⟨[(.tup [.nilp,a])],[],[]⟩⟩,⟨.ret,[],⟨[ai],[],[(.cells 1 Zb [a,a,a,a,a,(.full 1),(.full 2),a,(.full 3),a,(.full 4),a,a,(.full 5), .nilp, .nilp, .nilp,a,g,(.cint .i64 (-1)),g,g,g,g,(.cint .u64 0)]),b,b,(.arr Zb x),(.arr Zb x),m]⟩⟩],by exact u9 mn⟩
theorem aH8 :Rt bA5:=rq (.no) (.cons bd3 (.cons vK (.cons dw (.cons bE9 (.nil _))))) λ_=>by kernel_rfl
def bA3 :FSum:=⟨138,[a],[],[p],ur⟩
theorem aH7 :Rt bA3:=rq (.no) (.nil _) λ_=>by kernel_rfl
def cf0 :FSum:=⟨90,[a],[],[⟨.ret,[],⟨[ai],[],[(.cells 1 Zb [(.full 1),g]),b]⟩⟩],at1⟩
theorem ch2 :Rt cf0:=rq (.no) (.cons aH7 (.nil _)) λ_=>by kernel_rfl
def bn1 :FSum:=⟨139,[a,a,a],[],[⟨.ret,[],⟨[(.tup [.nilp,(.cint .i64 2)])],[],[]⟩⟩,⟨.ret,[],⟨[ai],[],[w]⟩⟩],by exact u3 kT⟩
theorem bp4 :Rt bn1:=rq (.no) (.nil _) λ_=>by kernel_rfl
def cf4 :FSum:=⟨91,[a],[],[⟨.ret,[],⟨[ai],[],[w]⟩⟩],bc5⟩
theorem ch4 :Rt cf4:=rq (.no) (.cons bp4 (.nil _)) λ_=>by kernel_rfl
def ai2 :FSum:=⟨140,[h,a,a],[r],[q],by exact u5 sv⟩
theorem aj8 :Rt ai2:=rq (.no) (.nil _) λ_=>by kernel_rfl
def aF5 :FSum:=⟨141,[h,a],[w],[⟨.ret,[],⟨[(.tup [])],[w],[]⟩⟩],by exact u4 qj⟩
theorem wu :Rt aF5:=rq (.no) (.nil _) λ_=>by kernel_rfl
def nG :FSum:=⟨92,[h,a],[w],[⟨.ret,[],⟨[a],[w],[]⟩⟩],by exact u4 jL⟩
theorem lg :Rt nG:=rq (.no) (.cons aj8 (.cons wu (.nil _))) λ_=>by kernel_rfl
def aJ4 :FSum:=⟨142,[h],[(.cells 1 Za [(.full 1),a]),d],[p],by exact u2 rj⟩
theorem aK5 :Rt aJ4:=rq (.no) (.nil _) λ_=>by kernel_rfl
def xP :FSum:=⟨93,[h,a],[(.cells 1 Zb [(.full 1),a]),d],[⟨.ret,[],⟨[ah],[(.cells 1 Zb [(.full 1),a])],[]⟩⟩],by exact u3 gf⟩
theorem ru :Rt xP:=rq (.no) (.cons aK5 (.nil _)) λ_=>by kernel_rfl
def ac6 :FSum:=⟨94,[h],[au,d,d,i,i,o,(.cells 1 Za [(.full 8),a]),r,d],[q],by exact u27 rF⟩
theorem ad3 :Rt ac6:=rq (.no) (.nil _) λ_=>by kernel_rfl
def aP8 :FSum:=⟨143,[(.agg [a,a,a])],[],[q],by exact u3 mb⟩
theorem zx :Rt aP8:=rq (.no) (.nil _) λ_=>by kernel_rfl
def xT :FSum:=⟨144,[(.agg [a,a,a])],[],[p],by exact u3 gg⟩
theorem nK :Rt xT:=rq (.no) (.nil _) λ_=>by kernel_rfl
def qk :FSum:=⟨145,[h,a,j],[(.cells 1 Za [(.full 1),a]),b],[⟨.ret,[],⟨[a],[b],[]⟩⟩],by exact u4 gm⟩
theorem kB :Rt qk:=dp (ins:=[⟨180,cx aB 180 ⟨[],[⟨181,cx aB 181 ⟨[],[]⟩ .no⟩]⟩ .no⟩]) (at':= .no) (.nil _) (br.cons (cb (.nil _) (br.cons (cb (.nil _) (br.nil _)) (br.nil _))) (br.nil _)) λ_=>by kernel_rfl
def cg9 :FSum:=⟨95,[h,a,a],[(.cells 1 Zb [(.full 1),a]),b],[⟨.ret,[],⟨[(.tup [(.ptr 2 0),g])],[(.cells 1 Zb [(.full 1),a]),b],[(.cells 1 Zb [a,a,a,h])]⟩⟩],by exact u4 bc7⟩
theorem ci2 :Rt cg9:=rq (.no) (.cons zx (.cons nK (.cons ru (.cons kB (.nil _))))) λ_=>by kernel_rfl
def aJ5 :FSum:=⟨96,[h,a,j],[au,d,d,i,i,o,(.cells 1 Za [(.full 8),a]),r,b],[⟨.ret,[],⟨[(.tup [])],[b],[]⟩⟩],by exact u29 kS⟩
theorem aK6 :Rt aJ5:=rq (.no) (.cons kB (.nil _)) λ_=>by kernel_rfl
def au4 :FSum:=⟨96,[h,a,j],[ag,d,d,i,i,o,ab,ac,r,b],[⟨.ret,[],⟨[(.tup [])],[b],[]⟩⟩],by exact u32 cu⟩
theorem gy :Rt au4:=rq (.no) (.cons kB (.nil _)) λ_=>by kernel_rfl
def cf1 :FSum:=⟨48,[y],[],[⟨.ret,[],⟨[(.tup [.nilp,a])],[],[]⟩⟩,⟨.ret,[],⟨[ai],[],[(.cells 1 Zb [a,a,a,a,a,(.full 1),(.full 2),a,(.full 3),a,(.full 4),a,a,(.full 5),(.ptr 6 0), .nilp,(.ptr 7 0),a,g,(.cint .i64 (-1)),g,g,g,g,(.cint .u64 0)]),b,b,(.arr Zb x),(.arr Zb x),m,(.cells 1 Zb [(.full 8),a]),w,b]⟩⟩,⟨.ret,[],⟨[ai],[],[(.cells 1 Zb [a,a,a,a,a,(.full 1),(.full 2),a,(.full 3),a,(.full 4),a,a,(.full 5),(.ptr 6 0),(.ptr 7 0),(.ptr 8 0),a,g,(.cint .i64 (-1)),g,g,g,g,(.cint .u64 0)]),b,b,(.arr Zb x),(.arr Zb x),m,(.cells 1 Zb [(.full 9),a]),(.cells 1 Zb [a,a,a,(.ptr 6 0)]),w,b]⟩⟩],by exact u9 bc4⟩
theorem ch3 :Rt cf1:=rq ((.n .no (.n .no (.n .no (.n .no (.n .no (.n .no (.n .no (.jn [1,7,8] [] [⟨.normal,[],⟨[],[(.cells 1 Zb [a,a,a,a,a,(.full 2),(.full 3),a,(.full 4),a,(.full 5),a,a,(.full 6),(.ptr 7 0), .nilp,(.ptr 9 0),a,g,(.cint .i64 (-1)),g,g,g,g,(.cint .u64 0)]),(.cells 1 Zb [(.full 8),a]),b],[]⟩⟩,⟨.normal,[],⟨[],[(.cells 1 Zb [a,a,a,a,a,(.full 2),(.full 3),a,(.full 4),a,(.full 5),a,a,(.full 6),(.ptr 7 0),(.ptr 10 0),(.ptr 9 0),a,g,(.cint .i64 (-1)),g,g,g,g,(.cint .u64 0)]),(.cells 1 Zb [(.full 8),a]),b],[(.cells 1 Zb [a,a,a,(.ptr 7 0)])]⟩⟩] .no .no))))))))) (.cons aH8 (.cons ch2 (.cons ch4 (.cons lg (.cons ru (.cons ad3 (.cons ci2 (.cons aK6 (.cons gy (.nil _)))))))))) λ_=>by kernel_rfl
def cf2 :FSum:=⟨26,[y, .nilp],[],[⟨.ret,[],⟨[h],[],[(.cells 1 Zb [.nilp,a,(.fn 57 [] []),k,k])]⟩⟩],by exact u9 at4⟩
theorem bd1 :Rt cf2:=rq (.no) (.nil _) λ_=>by kernel_rfl
def bA8 :FSum:=⟨26,[y,h],[au,d,d,i,i,o,(.cells 1 Za [(.full 8),a]),r,d],[⟨.ret,[],⟨[(.ptr 9 0)],[],[(.cells 1 Zb [h,a,(.fn 59 [] []),k,k])]⟩⟩],by exact u36 qr⟩
theorem aH9 :Rt bA8:=rq (.no) (.nil _) λ_=>by kernel_rfl
def bA9 :FSum:=⟨26,[y,h],[ag,d,d,i,i,o,ab,ac,r,d],[⟨.ret,[],⟨[(.ptr 10 0)],[],[(.cells 1 Zb [h,a,(.fn 57 [] []),k,k])]⟩⟩,⟨.ret,[],⟨[(.ptr 10 0)],[],[(.cells 1 Zb [h,a,(.fn 58 [] []),k,k])]⟩⟩],by exact u39 mp⟩
theorem aI0 :Rt bA9:=rq (.no) (.nil _) λ_=>by kernel_rfl
def bO5 :FSum:=⟨18,[y],[],[⟨.ret,[],⟨[ai],[],[(.cells 1 Zb [(.ptr 1 0),a,(.fn 57 [] []),k,k]),(.cells 1 Zb [a,a,a,a,a,(.full 2),(.full 3),a,(.full 4),a,(.full 5),a,a,(.full 6),(.ptr 7 0),(.ptr 8 0),(.ptr 9 0),a,g,(.cint .i64 (-1)),g,g,g,g,(.cint .u64 0)]),b,b,(.arr Zb x),(.arr Zb x),m,(.cells 1 Zb [(.full 10),a]),(.cells 1 Zb [a,a,a,(.ptr 7 0)]),w,b]⟩⟩],by exact u9 aO3⟩
theorem bU4 :Rt bO5:=rq (.no) (.cons ch3 (.cons bd1 (.cons aH9 (.cons aI0 (.nil _))))) λ_=>by kernel_rfl
def nE :FSum:=⟨106,[h],[ag,d,d,i,i,o,ab,ac,r,d],[p],by exact u30 jf⟩
theorem rz :Rt nE:=rq (.no) (.nil _) λ_=>by kernel_rfl
def nH :FSum:=⟨201,[(.agg [a,a,a]),a],[],[p],by exact u4 ed⟩
theorem lh :Rt nH:=rq (.no) (.cons nK (.nil _)) λ_=>by kernel_rfl
def oJ :FSum:=⟨200,[h,a],[(.cells 1 Za [(.full 1),a]),d],[⟨.ret,[],⟨[(.tup [c,a])],[],[]⟩⟩],by exact u3 gq⟩
theorem md :Rt oJ:=dp (ins:=[⟨180,cx aB 180 ⟨[],[⟨199,cx aB 199 ⟨[kt],[]⟩ .no⟩]⟩ .no⟩]) (at':= .no) (.nil _) (br.cons (cb (.nil _) (br.cons (cb (.cons dw (.nil _)) (br.nil _)) (br.nil _))) (br.nil _)) λ_=>by kernel_rfl
def aJ9 :FSum:=⟨152,[h],[(.cells 1 Za [a,a,a,(.ptr 1 0)]),(.cells 1 Za [(.full 2),a]),d],[⟨.ret,[],⟨[(.full 3)],[],[m]⟩⟩],by exact u5 jg⟩
theorem rB :Rt aJ9:=rq ((.n .no (.n .no (.n .no (.n (.n .no (.n (.lp [] ⟨.normal,[14,3],⟨[a,(.full 3)],[],[m]⟩⟩ [⟨(.exit 0),[3],⟨[(.full 3)],[],[m]⟩⟩] .no) .no)) .no))))) (.cons lh (.cons md (.nil _))) λ_=>by kernel_rfl
def kA :FSum:=⟨99,[h],[ag,d,d,i,i,o,ab,ac,r,d],[⟨.ret,[],⟨[(.agg [a,a,(.full 10)])],[],[m]⟩⟩],by exact u30 fi⟩
theorem kC :Rt kA:=rq (.no) (.cons rB (.nil _)) λ_=>by kernel_rfl
def bn0 :FSum:=⟨188,[a],[],[q],su⟩
theorem bp3 :Rt bn0:=rq (.no) (.nil _) λ_=>by kernel_rfl
def bm9 :FSum:=⟨187,[a,h],[(.cells 1 Za [a])],[q],by exact u2 kc⟩
theorem aw7 :Rt bm9:=rq (.no) (.nil _) λ_=>by kernel_rfl
def vJ :FSum:=⟨247,[(.leaf v),(.fn 187 [] [h])],[(.cells 1 Za [a])],[p],by exact u2 jb⟩
theorem vL :Rt vJ:=rq ((.n .no (.n (.n .no (.n (.lp [] ⟨.normal,[8],⟨[a],[],[]⟩⟩ [⟨.ret,[4],⟨[a],[],[]⟩⟩,⟨(.exit 0),[],⟨[],[],[]⟩⟩] .no) .no)) .no))) (.cons aw7 (.nil _)) λ_=>by kernel_rfl
def tH :FSum:=⟨189,[(.leaf v),(.fn 187 [] [h])],[(.cells 1 Za [a])],[q],by exact u2 dy⟩
theorem tJ :Rt tH:=rq (.no) (.cons vL (.nil _)) λ_=>by kernel_rfl
def ai3 :FSum:=⟨190,[.leaf v],[],yn ad,kK⟩
theorem tv :Rt ai3:=ay0 (es:=1) (bytes:=8) (z:=[(.int .i64 0)]) (s:=ad) (by kernel_rfl) (λ_=>by kernel_rfl) (λ_=>by kernel_rfl) (by kernel_rfl)
def bO8 :FSum:=⟨147,[a,(.agg [a,a,(.leaf v)])],[],[⟨.ret,[],⟨[(.tup [.nilp,(.cint .i64 2)])],[],[]⟩⟩,⟨.ret,[],⟨[ai],[],[(.cells 1 Zb [a,a,a,g,(.full 1)]),m]⟩⟩],by exact u4 kH⟩
theorem aj3 :Rt bO8:=rq (.no) (.cons bp3 (.cons aw7 (.cons tJ (.cons tv (.nil _))))) λ_=>by kernel_rfl
def aH5 :FSum:=⟨157,[a,(.agg [a,a,(.leaf v)])],[],[q],by exact u4 aH3⟩
theorem bG5 :Rt aH5:=rq (.no) (.cons aj3 (.nil _)) λ_=>by kernel_rfl
def zt :FSum:=⟨158,[],[],[⟨.ret,[],⟨[(.tup [(.agg [g,g]),k])],[],[]⟩⟩],λ_=>lZ⟩
theorem zw :Rt zt:=rq (.no) (.nil _) λ_=>by kernel_rfl
def av1 :FSum:=⟨159,[a,(.agg [a,a,(.leaf v)])],[],[⟨.ret,[],⟨[be],[],[]⟩⟩],by exact u4 at9⟩
theorem bq4 :Rt av1:=rq ((.n .no (.n .no (.jn [0,1,2] [] [⟨.normal,[],⟨[],[(.cells 1 Zb [a,a,(.leaf v)]),(.cells 1 Zb [g,g,NS,g,g,g,g,g]),(.cells 1 Zb [a,a,(.leaf v),a,(.cint .i64 (-1)),g,g,(.cint .i64 (-1))])],[]⟩⟩] .no (.n (.n .no (.n (.lp [0,1,2] ⟨.normal,[20],⟨[a],[(.cells 1 Zb [a,a,(.leaf v)]),(.cells 1 Zb [g,g,NS,g,g,g,g,g]),(.cells 1 Zb [a,a,(.leaf v),a,a,a,a,a])],[]⟩⟩ [⟨(.exit 0),[],⟨[],[(.cells 1 Zb [a,a,(.leaf v)]),(.cells 1 Zb [g,g,NS,g,g,g,g,g]),(.cells 1 Zb [a,a,(.leaf v),a,a,a,a,a])],[]⟩⟩] .no) .no)) .no))))) (.nil _) λ_=>by kernel_rfl
def aH6 :FSum:=⟨206,[a,a],[],[⟨.ret,[],⟨[(.fn 262 [] [h,(.ptr 1 0)])],[],[(.cells 1 Zb [a]),(.cells 1 Zb [a])]⟩⟩],by exact u2 oi⟩
theorem bG6 :Rt aH6:=rq (.no) (.nil _) λ_=>by kernel_rfl
def aq8 :FSum:=⟨205,[be],[],[q],by exact u8 lE⟩
theorem oz :Rt aq8:=rq (.no) (.nil _) λ_=>by kernel_rfl
def sZ :FSum:=⟨204,[h],[ay],[q],by exact u8 sL⟩
theorem ak3 :Rt sZ:=rq (.no) (.cons oz (.nil _)) λ_=>by kernel_rfl
def ao4 :FSum:=⟨262,[h,(.ptr 1 0)],[(.cells 1 Za [a]),(.cells 1 Za [a])],[⟨.ret,[],⟨[(.tup [(.agg [a,a]),k])],[],[]⟩⟩],by exact u2 lP⟩
theorem bj4 :Rt ao4:=rq (.no) (.nil _) λ_=>by kernel_rfl
def ta :FSum:=⟨207,[h],[ay],[q],by exact u8 sM⟩
theorem ak4 :Rt ta:=rq (.no) (.nil _) λ_=>by kernel_rfl
def tb :FSum:=⟨208,[h,(.ptr 1 0)],[ay,(.cells 1 Za [a])],[q],by exact u9 sN⟩
theorem ak5 :Rt tb:=rq (.no) (.cons oz (.nil _)) λ_=>by kernel_rfl
def tc :FSum:=⟨209,[h],[ay],[q],by exact u8 sO⟩
theorem ak6 :Rt tc:=rq (.no) (.nil _) λ_=>by kernel_rfl
def wm :FSum:=⟨210,[be],[],[⟨.ret,[],⟨[(.tup [(.agg [a,g]),k])],[],[]⟩⟩],by exact u8 we⟩
theorem aG8 :Rt wm:=rq (.no) (.cons oz (.nil _)) λ_=>by kernel_rfl
def td :FSum:=⟨211,[h],[ay],[q],by exact u8 sP⟩
theorem ak7 :Rt td:=rq (.no) (.nil _) λ_=>by kernel_rfl
def uY :FSum:=⟨212,[be],[],[⟨.ret,[],⟨[(.tup [(.agg [a,g]),k])],[],[]⟩⟩],by exact u8 uS⟩
theorem ax2 :Rt uY:=rq (.no) (.cons zw (.nil _)) λ_=>by kernel_rfl
def te :FSum:=⟨213,[h],[ay],[q],by exact u8 sQ⟩
theorem ak8 :Rt te:=rq (.no) (.nil _) λ_=>by kernel_rfl
def tf :FSum:=⟨214,[h],[ay],[q],by exact u8 sR⟩
theorem ak9 :Rt tf:=rq (.no) (.nil _) λ_=>by kernel_rfl
def ti :FSum:=⟨215,[h],[ay],[q],by exact u8 sS⟩
theorem al1 :Rt ti:=rq (.no) (.nil _) λ_=>by kernel_rfl
def ad2 :FSum:=⟨216,[],[],[q],λ_=>ac5⟩
theorem aX5 :Rt ad2:=rq (.no) (.nil _) λ_=>by kernel_rfl
def bT5 :FSum:=⟨294,[a],[],[q],aO7⟩
theorem bX7 :Rt bT5:=rq (.no) (.nil _) λ_=>by kernel_rfl
def aP4 :FSum:=⟨307,[c,c],[],[⟨.ret,[],⟨[(.tup [c,c])],[],[]⟩⟩],by exact u2 zj⟩
theorem aQ4 :Rt aP4:=rq (.no) (.nil _) λ_=>by kernel_rfl
def aP3 :FSum:=⟨325,[c],[],[p],zi⟩
theorem aQ3 :Rt aP3:=rq ((.n .no (.jn [] [] [⟨.normal,[0,2],⟨[c,a],[],[]⟩⟩] .no (.jn [] [] [⟨.normal,[0,2],⟨[c,a],[],[]⟩⟩] .no .no)))) (.nil _) λ_=>by kernel_rfl
def xR :FSum:=⟨317,[c],[],[p],oT⟩
theorem xX :Rt xR:=rq (.no) (.cons aQ3 (.nil _)) λ_=>by kernel_rfl
def aP2 :FSum:=⟨308,[c,c,c],[],[⟨.ret,[],⟨[(.tup [c,c])],[],[]⟩⟩],by exact u3 zg⟩
theorem aQ2 :Rt aP2:=rq ((.n .no (.n .no (.n .no (.n .no (.n .no (.n .no (.n .no (.n .no (.n .no (.n .no (.n .no (.n .no (.n .no (.n .no (.n (.n (.lp [] ⟨.normal,[15,16],⟨[c,c],[],[]⟩⟩ [⟨(.exit 0),[15],⟨[c],[],[]⟩⟩] .no) .no) (.n .no (.n .no (.n .no (.n (.n (.lp [] ⟨.normal,[18,16],⟨[c,c],[],[]⟩⟩ [⟨(.exit 2),[18],⟨[c],[],[]⟩⟩] .no) .no) .no)))))))))))))))))))) (.cons xX (.nil _)) λ_=>by kernel_rfl
def bm5 :FSum:=⟨298,[a,a,a],[],[p],by exact u3 at3⟩
theorem bp1 :Rt bm5:=rq (.no) (.cons aQ4 (.cons aQ2 (.nil _))) λ_=>by kernel_rfl
def bh3 :FSum:=⟨285,[a,a],[],[p],by exact u2 qP⟩
theorem ao5 :Rt bh3:=rq ((.n .no (.n .no (.n .no (.n .no (.n (.n .no (.n (.lp [] ⟨.normal,[6,5],⟨[a,a],[],[]⟩⟩ [⟨(.exit 0),[5],⟨[a],[],[]⟩⟩] .no) .no)) .no)))))) (.cons bp1 (.nil _)) λ_=>by kernel_rfl
def bo8 :FSum:=⟨297,[a,a],[],[p],by exact u2 at8⟩
theorem bq3 :Rt bo8:=rq (.no) (.cons ao5 (.nil _)) λ_=>by kernel_rfl
def bD9 :FSum:=⟨296,[a,h,(.ptr 1 0)],[(.cells 1 Za [a]),(.cells 1 Za [a])],[q],by exact u3 aH2⟩
theorem bG4 :Rt bD9:=rq (.no) (.cons bq3 (.nil _)) λ_=>by kernel_rfl
def bT4 :FSum:=⟨295,[a,(.fn 296 [] [h,(.ptr 1 0)])],[(.cells 1 Za [a]),(.cells 1 Za [a])],[p],by exact u3 aO6⟩
theorem bX6 :Rt bT4:=rq ((.n .no (.n .no (.n (.n (.lp [] ⟨.normal,[5,6],⟨[a,a],[],[]⟩⟩ [⟨(.exit 0),[5],⟨[a],[],[]⟩⟩] .no) .no) .no)))) (.cons bG4 (.nil _)) λ_=>by kernel_rfl
def cg8 :FSum:=⟨283,[a,a],[],[⟨.ret,[],⟨[ah],[],[]⟩⟩],by exact u2 bc6⟩
theorem ci1 :Rt cg8:=rq (.no) (.cons bX7 (.cons bX6 (.nil _))) λ_=>by kernel_rfl
def bi3 :FSum:=⟨284,[(.leaf v)],[],[p],ao3⟩
theorem bj3 :Rt bi3:=rq ((.n .no (.n .no (.n (.n .no (.n (.lp [] ⟨.normal,[11,3],⟨[a,a],[],[]⟩⟩ [⟨(.exit 0),[3],⟨[a],[],[]⟩⟩] .no) .no)) .no)))) (.nil _) λ_=>by kernel_rfl
def bT3 :FSum:=⟨263,[a,a],[],[⟨.ret,[],⟨[ah],[],[]⟩⟩],by exact u2 aO5⟩
theorem bX5 :Rt bT3:=rq (.no) (.cons ci1 (.cons ao5 (.cons bj3 (.nil _)))) λ_=>by kernel_rfl
def uZ :FSum:=⟨217,[be],[],[⟨.ret,[],⟨[(.tup [(.agg [(.cint .i64 1),a]),k])],[],[]⟩⟩],by exact u8 uT⟩
theorem ax3 :Rt uZ:=rq (.no) (.cons bX5 (.nil _)) λ_=>by kernel_rfl
def aW6 :FSum:=⟨57,[h],[ar,ap,d,d,i,i,o,(.cells 1 Za [(.full 10),a]),al,r,d],[⟨.ret,[],⟨[(.tup [(.agg [a,a]),k])],[],[]⟩⟩],by exact u33 tY⟩
theorem ad7 :Rt aW6:=dp (ins:=[⟨60,cx aB 60 ⟨[nE],[⟨50,cx aB 50 ⟨[],[]⟩ .no⟩]⟩ .no⟩,⟨53,cx aB 53 ⟨[kA],[⟨50,cx aB 50 ⟨[],[]⟩ .no⟩]⟩ .no⟩,⟨104,cx aB 104 ⟨[aH5,zt,av1,sZ,ao4,ta,tb,tc,wm,td,uY,te,tf,ti,ad2,uZ],[⟨160,cx aB 160 ⟨[aH6],[]⟩ .no⟩]⟩ (.n .no (.n .no (.n (.n .no (.n (.n .no (.n .no (.n .no (.n .no (.n .no (.n .no (.n .no (.n .no (.n .no (.n .no .no)))))))))) .no)) .no)))⟩]) (at':= .no) (.nil _) (br.cons (cb (.cons rz (.nil _)) (br.cons (cb (.nil _) (br.nil _)) (br.nil _))) (br.cons (cb (.cons kC (.nil _)) (br.cons (cb (.nil _) (br.nil _)) (br.nil _))) (br.cons (cb (.cons bG5 (.cons zw (.cons bq4 (.cons ak3 (.cons bj4 (.cons ak4 (.cons ak5 (.cons ak6 (.cons aG8 (.cons ak7 (.cons ax2 (.cons ak8 (.cons ak9 (.cons al1 (.cons aX5 (.cons ax3 (.nil _))))))))))))))))) (br.cons (cb (.cons bG6 (.nil _)) (br.nil _)) (br.nil _))) (br.nil _)))) λ_=>by kernel_rfl
def yM :FSum:=⟨94,[h],[ag,d,d,i,i,o,ab,ac,r,d],[q],by exact u30 pW⟩
theorem yT :Rt yM:=rq (.no) (.nil _) λ_=>by kernel_rfl
def xO :FSum:=⟨151,[h,a,a],[(.cells 1 Za [(.full 1),a]),d],[⟨.ret,[],⟨[(.tup [(.full 2),a])],[],[b]⟩⟩],by exact u4 gw⟩
theorem rr :Rt xO:=dp (ins:=[⟨180,cx aB 180 ⟨[],[⟨199,cx aB 199 ⟨[kt],[]⟩ .no⟩]⟩ .no⟩]) (at':= .no) (.nil _) (br.cons (cb (.nil _) (br.cons (cb (.cons dw (.nil _)) (br.nil _)) (br.nil _))) (br.nil _)) λ_=>by kernel_rfl
def xQ :FSum:=⟨98,[h,a],[ag,d,d,i,i,o,ab,ac,r,d],[⟨.ret,[],⟨[(.full 10)],[],[b]⟩⟩],by exact u31 ec⟩
theorem gh :Rt xQ:=rq (.no) (.cons rr (.nil _)) λ_=>by kernel_rfl
def vb :FSum:=⟨271,[(.leaf aw)],[],[⟨.ret,[],⟨[(.full 0)],[],[b]⟩⟩],nk⟩
theorem vi :Rt vb:=dp (ins:=[⟨289,cx aB 289 ⟨[],[]⟩ .no⟩]) (at':=(.n .no (.n .no (.n (.n .no (.n (.lp [] ⟨.normal,[11,3],⟨[a,a],[],[]⟩⟩ [⟨(.exit 0),[3],⟨[a],[],[]⟩⟩] .no) .no)) (.n .no (.n (.n .no (.n (.sz 0 (.lp [] ⟨.normal,[27,6],⟨[a,(.full 0)],[],[b]⟩⟩ [⟨(.exit 2),[6],⟨[(.full 0)],[],[b]⟩⟩] .no) (.lp [] ⟨.normal,[27,6],⟨[a,(.full 1)],[],[b]⟩⟩ [⟨(.exit 2),[6],⟨[(.full 1)],[],[b]⟩⟩] .no)) .no)) .no)))))) (.nil _) (br.cons (cb (.nil _) (br.nil _)) (br.nil _)) λ_=>by kernel_rfl
def au1 :FSum:=⟨240,[h,aa,j,j],[ag,d,d,i,i,o,ab,ac,r,d],[⟨.ret,[],⟨[(.full 10)],[],[b]⟩⟩],by exact u34 lS⟩
theorem pc :Rt au1:=rq (.no) (.cons gh (.cons vi (.nil _))) λ_=>by kernel_rfl
def bh2 :FSum:=⟨304,[aa],[],[p],by exact u2 qO⟩
theorem bi5 :Rt bh2:=dp (ins:=[⟨286,cx aB 286 ⟨[oZ,lK,ov,nD],[⟨299,cx aB 299 ⟨[],[]⟩ .no⟩]⟩ (.n .no (.n .no (.n (.n .no (.n (.n .no (.n .no .no)) .no)) (.n (.n .no (.n (.n (.n .no (.n .no (.n (.n (.n .no (.n .no (.n (.n .no (.n .no .no)) .no))) .no) .no))) (.n (.n .no (.n .no (.n (.n (.n .no (.n .no (.n (.n .no (.n .no .no)) .no))) .no) .no))) (.n (.n .no (.n .no (.n (.n (.n .no (.n .no (.n (.n .no (.n .no .no)) .no))) .no) .no))) (.n (.n .no (.n .no (.n (.n (.n .no (.n .no (.n (.n .no (.n .no .no)) .no))) .no) .no))) (.n .no .no))))) .no)) .no))))⟩]) (at':= .no) (.nil _) (br.cons (cb (.cons ve (.cons qa (.cons tW (.cons tn (.nil _))))) (br.cons (cb (.nil _) (br.nil _)) (br.nil _))) (br.nil _)) λ_=>by kernel_rfl
def bT6 :FSum:=⟨305,[l],[],[⟨.ret,[],⟨[(.tup [(.full 0),a])],[],[m]⟩⟩],ag7⟩
theorem bX8 :Rt bT6:=rq (.no) (.cons ax4 (.nil _)) λ_=>by kernel_rfl
def cf3 :FSum:=⟨290,[aa],[],[⟨.ret,[],⟨[(.tup [(.full 0),a])],[],[(.arr Zb an)]⟩⟩],by exact u2 rG⟩
theorem aw3 :Rt cf3:=rq ((.n .no (.n .no (.n .no (.n .no (.n .no (.n .no (.n (.n .no (.n (.lp [] ⟨.normal,[11,10,9],⟨[a,(.full 3),(.full 4)],[],[m,(.arr Zb an)]⟩⟩ [⟨(.exit 0),[9],⟨[(.full 3)],[],[(.arr Zb an)]⟩⟩] (.n .no (.n (.n (.n .no (.jn [] [3,4] [⟨(.exit 1),[11,10,9],⟨[a,(.full 6),(.full 7)],[],[m,(.arr Zb an)]⟩⟩,⟨.normal,[9,11,10],⟨[(.full 6),a,(.full 7)],[],[(.arr Zb an),m]⟩⟩] (.n (.jn [] [] [⟨.normal,[43],⟨[k],[],[]⟩⟩] .no .no) .no) .no)) .no) .no))) .no)) .no)))))))) (.cons bi5 (.cons aj9 (.cons bX8 (.nil _)))) λ_=>by kernel_rfl
def bT9 :FSum:=⟨272,[aa,j,j],[],[⟨.ret,[],⟨[(.tup [(.full 0),a])],[],[(.arr Zb an)]⟩⟩],by exact u4 ag8⟩
theorem bY0 :Rt bT9:=rq (.no) (.cons aw3 (.cons uC (.nil _))) λ_=>by kernel_rfl
def bn2 :FSum:=⟨291,[ak,c,c],[],[⟨.ret,[],⟨[c],[],[]⟩⟩],by exact u7 oU⟩
theorem aw9 :Rt bn2:=rq (.no) (.nil _) λ_=>by kernel_rfl
def ch0 :FSum:=⟨273,[(.full 0),(.full 1),(.full 2)],[(.arr Za an),b,b],[⟨.ret,[],⟨[a],[b,b],[]⟩⟩],by exact u3 zr⟩
theorem ci3 :Rt ch0:=rq ((.n .no (.n .no (.n .no (.n (.lp [1,2,3] ⟨.normal,[8,10,9],⟨[a,a,a],[b,b,bc],[]⟩⟩ [⟨.ret,[6],⟨[a],[b,b,bc],[]⟩⟩] .no) .no))))) (.cons aw9 (.nil _)) λ_=>by kernel_rfl
def bE2 :FSum:=⟨241,[(.agg [a,(.full 0)]),(.full 1),(.full 2)],[i,b,b],[⟨.ret,[],⟨[ah],[b,b],[]⟩⟩],by exact u4 qA⟩
theorem aI5 :Rt bE2:=rq (.no) (.cons bY0 (.cons ci3 (.nil _))) λ_=>by kernel_rfl
def pa :FSum:=⟨182,[h],[ae,d,d,i,i,o,ab,ac,r,b],[⟨.ret,[],⟨[(.tup [(.full 10),(.full 11)])],[ae,b],[b,b]⟩⟩],by exact u30 oR⟩
theorem vh :Rt pa:=rq ((.n .no (.n .no (.n (.dr [0,1,2,3,4,5,6,8,9,10,11,12,15,1013,1016,7,13,1016,14,17,16,18]) .no)))) (.cons xA (.cons gh (.cons pc (.cons aI5 (.cons gy (.nil _)))))) λ_=>by kernel_rfl
def bO4 :FSum:=⟨246,[aa,j],[],[⟨.ret,[],⟨[(.full 0)],[],[b]⟩⟩],by exact u3 ag2⟩
theorem aQ1 :Rt bO4:=rq (.no) (.cons dw (.nil _)) λ_=>by kernel_rfl
def aP5 :FSum:=⟨316,[ak,c,c],[],[⟨.ret,[],⟨[(.tup [c,c])],[],[]⟩⟩],by exact u7 oE⟩
theorem aQ5 :Rt aP5:=rq (.no) (.nil _) λ_=>by kernel_rfl
def aK2 :FSum:=⟨306,[(.agg [(.full 0),(.full 1),(.full 2)]),ak,a],[b,b,d],[⟨.ret,[],⟨[(.tup [])],[b,b],[]⟩⟩],by exact u9 nC⟩
theorem aL0 :Rt aK2:=rq (.no) (.cons aQ5 (.nil _)) λ_=>by kernel_rfl
def aK1 :FSum:=⟨292,[(.agg [(.full 0),(.full 1),(.full 2)]),(.full 3),a],[b,b,d,(.arr Za an)],[⟨.ret,[],⟨[(.tup [])],[b,b],[]⟩⟩],by exact u5 nB⟩
theorem aK9 :Rt aK1:=rq ((.n .no (.n .no (.n .no (.n (.lp [0,1,5] ⟨.normal,[7,8,2],⟨[a,a,a],[b,b,bc],[]⟩⟩ [⟨.ret,[],⟨[],[b,b,bc],[]⟩⟩] .no) .no))))) (.cons aL0 (.nil _)) λ_=>by kernel_rfl
def bT8 :FSum:=⟨274,[(.agg [a,(.full 0)]),(.full 1),(.full 2),(.full 3)],[i,b,b,d],[⟨.ret,[],⟨[a],[b,b],[]⟩⟩],by exact u5 sX⟩
theorem aR8 :Rt bT8:=rq (.no) (.cons aw3 (.cons uC (.cons aK9 (.nil _)))) λ_=>by kernel_rfl
def aE9 :FSum:=⟨245,[h,(.agg [a,(.full 1)]),(.full 2),(.full 3),(.full 4)],[(.cells 1 Zb [a,a,a,a,a,(.full 5),(.full 6),a,(.full 7),a,(.full 1),a,a,(.full 8),(.ptr 9 0),(.ptr 10 0),(.ptr 11 0),a,a,a,a,a,a,a,c]),i,b,b,d,d,d,i,o,(.cells 1 Za [(.full 12),a]),(.cells 1 Za [a,a,a,(.ptr 9 0)]),r,b],[⟨.ret,[],⟨[(.tup [])],[(.cells 1 Zb [a,a,a,a,a,(.full 5),(.full 6),a,(.full 7),a,(.full 1),a,a,(.full 8),(.ptr 9 0),(.ptr 10 0),(.ptr 11 0),a,a,a,a,a,a,a,c]),b,b,b],[]⟩⟩],by exact u34 vU⟩
theorem aF9 :Rt aE9:=rq ((.n .no (.n .no (.n .no (.n .no (.n .no (.n .no (.n (.n .no (.n (.lp [14] ⟨.normal,[36],⟨[a],[b],[]⟩⟩ [⟨(.exit 0),[],⟨[],[b],[]⟩⟩] .no) .no)) .no)))))))) (.cons aR8 (.cons gy (.cons gh (.nil _)))) λ_=>by kernel_rfl
def rn :FSum:=⟨244,[h,j],[ae,d,d,i,i,o,ab,ac,r,b],[⟨.ret,[],⟨[(.tup [])],[ae,b],[]⟩⟩],by exact u31 rl⟩
theorem xV :Rt rn:=rq ((.n .no (.n (.dr [0,1,2,3,4,5,6,8,1009,7,10,9,11]) .no))) (.cons xA (.cons pc (.cons aI5 (.cons gy (.cons aQ1 (.cons aF9 (.nil _))))))) λ_=>by kernel_rfl
def nF :FSum:=⟨186,[h,a],[w],[⟨.ret,[],⟨[a],[w],[]⟩⟩],by exact u4 kU⟩
theorem nI :Rt nF:=rq (.no) (.cons wu (.nil _)) λ_=>by kernel_rfl
def aF2 :FSum:=⟨184,[h,a],[ae,d,d,i,i,o,ab,ac,w,b],[⟨.ret,[],⟨[(.tup [])],[ae,w,b],[]⟩⟩],by exact u31 vY⟩
theorem aG4 :Rt aF2:=dp (ins:=[⟨242,cx aB 242 ⟨[nG,nF],[⟨243,cx aB 243 ⟨[xQ,rn],[]⟩ .no⟩]⟩ .no⟩]) (at':= .no) (.cons xA (.nil _)) (br.cons (cb (.cons lg (.cons nI (.nil _))) (br.cons (cb (.cons gh (.cons xV (.nil _))) (br.nil _)) (br.nil _))) (br.nil _)) λ_=>by kernel_rfl
def au3 :FSum:=⟨146,[h,(.agg [a,a])],[ae,d,d,i,i,o,ab,ac,w,b],[⟨.ret,[],⟨[a],[ae,w,b],[]⟩⟩],by exact u32 uJ⟩
theorem av9 :Rt au3:=an0 (λ_=>rfl)
def aO9 :FSum:=⟨248,[a],[],[q],ze⟩
theorem aP9 :Rt aO9:=rq (.no) (.nil _) λ_=>by kernel_rfl
def bm4 :FSum:=⟨191,[(.agg [a,a])],[],[q],by exact u2 at0⟩
theorem bp0 :Rt bm4:=rq ((.n .no (.n (.n (.jn [] [] [⟨.normal,[3],⟨[k],[],[]⟩⟩] .no .no) .no) .no))) (.cons aP9 (.nil _)) λ_=>by kernel_rfl
def ad0 :FSum:=⟨192,[h],[(.cells 1 Za [a,a,a,a,(.full 1)]),o],[⟨.ret,[],⟨[(.agg [.nilf,(.fn 249 [h] []),(.fn 250 [h] []),(.fn 251 [h] []),(.fn 252 [h] []),(.fn 253 [h] []),(.fn 254 [h] []),(.fn 255 [h] [])])],[],[]⟩⟩],by exact u5 rH⟩
theorem ad8 :Rt ad0:=rq (.no) (.nil _) λ_=>by kernel_rfl
def yQ :FSum:=⟨249,[h,a],[aj,o],[⟨.ret,[],⟨[a],[aj],[]⟩⟩],by exact u6 pX⟩
theorem yV :Rt yQ:=rq (.no) (.nil _) λ_=>by kernel_rfl
def ad1 :FSum:=⟨250,[h,a],[(.cells 1 Za [a,a,a,a,(.full 1)]),m],[⟨.ret,[],⟨[a],[m],[]⟩⟩],by exact u6 rI⟩
theorem ad9 :Rt ad1:=rq (.no) (.nil _) λ_=>by kernel_rfl
def yR :FSum:=⟨251,[h,a],[aj,o],[⟨.ret,[],⟨[a],[aj],[]⟩⟩],by exact u6 pY⟩
theorem yW :Rt yR:=rq (.no) (.nil _) λ_=>by kernel_rfl
def ai0 :FSum:=⟨252,[h,a],[(.cells 1 Za [a,a,a,a,(.full 1)]),m],[⟨.ret,[],⟨[a],[m],[]⟩⟩],by exact u6 sq⟩
theorem aj6 :Rt ai0:=rq (.no) (.nil _) λ_=>by kernel_rfl
def ac9 :FSum:=⟨275,[h,a],[aj,o],[⟨.ret,[],⟨[a],[aj],[]⟩⟩],by exact u6 mN⟩
theorem rQ :Rt ac9:=rq (.no) (.nil _) λ_=>by kernel_rfl
def ai1 :FSum:=⟨253,[h,a],[aj,o],[⟨.ret,[],⟨[a],[aj],[]⟩⟩],by exact u6 sr⟩
theorem aj7 :Rt ai1:=rq (.no) (.cons rQ (.nil _)) λ_=>by kernel_rfl
def ah9 :FSum:=⟨254,[h,a],[aj,o],[⟨.ret,[],⟨[a],[aj],[]⟩⟩],by exact u6 sm⟩
theorem aj5 :Rt ah9:=rq (.no) (.cons rQ (.nil _)) λ_=>by kernel_rfl
def yS :FSum:=⟨255,[h,a],[aj,o],[⟨.ret,[],⟨[a],[aj],[]⟩⟩],by exact u6 pZ⟩
theorem yX :Rt yS:=rq (.no) (.nil _) λ_=>by kernel_rfl
def av0 :FSum:=⟨148,[h,(.agg [a,a])],[aj,m],[⟨.ret,[],⟨[a],[aj,m],[]⟩⟩],by exact u7 uN⟩
theorem aw8 :Rt av0:=rq ((.n .no (.jn [] [] [⟨.ret,[4],⟨[(.cint .i64 2)],[],[]⟩⟩,⟨.normal,[],⟨[],[],[]⟩⟩] (.n (.n .no (.n .no (.jn [] [] [⟨.normal,[8],⟨[k],[],[]⟩⟩] .no .no))) .no) .no))) (.cons bp0 (.cons ad8 (.cons yV (.cons ad9 (.cons yW (.cons aj6 (.cons aj7 (.cons aj5 (.cons yX (.nil _)))))))))) λ_=>by kernel_rfl
def au2 :FSum:=⟨149,[h],[ag,d,d,i,i,o,ab,ac,r,d],[⟨.ret,[],⟨[(.agg [.nilf,(.fn 193 [h] []),(.fn 194 [h] []),(.fn 195 [h] []),(.fn 196 [h] []),(.fn 184 [h] []),(.fn 197 [h] []),(.fn 198 [h] [])])],[],[]⟩⟩],by exact u30 uI⟩
theorem av8 :Rt au2:=rq (.no) (.nil _) λ_=>by kernel_rfl
def bh5 :FSum:=⟨276,[aa,j],[],[⟨.ret,[],⟨[(.tup [(.full 0),(.full 1),a])],[],[(.arr Zb an),b]⟩⟩],by exact u3 vE⟩
theorem bi7 :Rt bh5:=rq (.no) (.cons aw3 (.nil _)) λ_=>by kernel_rfl
def bh4 :FSum:=⟨278,[a,ak],[],[⟨.ret,[],⟨[(.tup [])],[],[]⟩⟩],by exact u6 vD⟩
theorem bi6 :Rt bh4:=rq (.no) (.nil _) λ_=>by kernel_rfl
def bm6 :FSum:=⟨277,[(.full 0),(.full 1),a,(.fn 278 [] [])],[(.arr Za an),b],[⟨.ret,[],⟨[(.tup [])],[b],[]⟩⟩],by exact u3 sj⟩
theorem bp2 :Rt bm6:=rq ((.n .no (.n .no (.n (.lp [1,2] ⟨.normal,[9,11,10],⟨[a,a,a],[b,bc],[]⟩⟩ [⟨.ret,[],⟨[],[b,bc],[]⟩⟩] .no) .no)))) (.cons aw9 (.cons bi6 (.nil _))) λ_=>by kernel_rfl
def bB0 :FSum:=⟨256,[aa,j],[],[⟨.ret,[],⟨[(.tup [(.full 0),a])],[],[b]⟩⟩],by exact u3 qs⟩
theorem bE5 :Rt bB0:=rq (.no) (.cons bi7 (.cons bp2 (.nil _))) λ_=>by kernel_rfl
def ah1 :FSum:=⟨193,[h,a],[ae,d,d,i,i,o,ab,ac,r,b],[⟨.ret,[],⟨[(.tup [])],[ae,b],[]⟩⟩],by exact u31 sd⟩
theorem ai6 :Rt ah1:=rq ((.n .no (.n (.lp [0,9] ⟨.normal,[8],⟨[a],[ae,b],[]⟩⟩ [⟨(.exit 0),[],⟨[],[ae,b],[]⟩⟩] (.n .no (.n .no (.n (.n (.n .no (.n (.dr [0,1,2,3,4,5,6,7,8,9,10,11,13,14,15,16,17,18,19,1020,12,20,21,22,23,24,25,26,27]) .no)) .no) .no)))) .no))) (.cons gh (.cons pc (.cons bE5 (.cons gy (.nil _))))) λ_=>by kernel_rfl
def ah8 :FSum:=⟨150,[h],[(.cells 1 Za [a,a,a,a,(.full 1)]),o],[⟨.ret,[],⟨[(.agg [a,a,(.full 2)])],[],[m]⟩⟩],by exact u5 ey⟩
theorem aj4 :Rt ah8:=rq (.no) (.cons tv (.nil _)) λ_=>by kernel_rfl
def oK :FSum:=⟨293,[(.agg [a,a,a]),a],[],[q],by exact u4 oI⟩
theorem tx :Rt oK:=rq (.no) (.nil _) λ_=>by kernel_rfl
def aF6 :FSum:=⟨257,[h,a,a,j],[(.cells 1 Za [a,a,a,(.ptr 1 0)]),(.cells 1 Za [(.full 2),a]),b],[⟨.ret,[],⟨[a],[b],[]⟩⟩],by exact u8 wj⟩
theorem aG9 :Rt aF6:=dp (ins:=[⟨279,cx aB 279 ⟨[oK,nH,oJ],[⟨280,cx aB 280 ⟨[qk],[]⟩ (.n .no (.n (.n (.jn [] [] [⟨.normal,[8],⟨[k],[],[]⟩⟩] .no .no) .no) .no))⟩]⟩ .no⟩]) (at':= .no) (.nil _) (br.cons (cb (.cons tx (.cons lh (.cons md (.nil _)))) (br.cons (cb (.cons kB (.nil _)) (br.nil _)) (br.nil _))) (br.nil _)) λ_=>by kernel_rfl
def au5 :FSum:=⟨194,[h,a],[ag,d,d,i,i,o,ab,ac,w,b],[⟨.ret,[],⟨[(.tup [])],[w,b],[]⟩⟩],by exact u31 uK⟩
theorem aw0 :Rt au5:=rq (.no) (.cons lg (.cons gh (.cons aG9 (.nil _)))) λ_=>by kernel_rfl
def aq9 :FSum:=⟨258,[h,a],[(.cells 1 Za [a,a,a,(.ptr 1 0)]),(.cells 1 Za [(.full 2),a]),d],[⟨.ret,[],⟨[(.tup [a,(.full 3),a])],[],[b]⟩⟩],by exact u6 tQ⟩
theorem as6 :Rt aq9:=dp (ins:=[⟨279,cx aB 279 ⟨[oK,nH,oJ],[⟨281,cx aB 281 ⟨[xO],[]⟩ .no⟩]⟩ .no⟩]) (at':= .no) (.nil _) (br.cons (cb (.cons tx (.cons lh (.cons md (.nil _)))) (br.cons (cb (.cons rr (.nil _)) (br.nil _)) (br.nil _))) (br.nil _)) λ_=>by kernel_rfl
def ah2 :FSum:=⟨195,[h,a],[ag,d,d,i,i,o,ab,ac,r,b],[⟨.ret,[],⟨[(.tup [])],[b],[]⟩⟩],by exact u31 se⟩
theorem ai7 :Rt ah2:=rq (.no) (.cons as6 (.cons gy (.nil _))) λ_=>by kernel_rfl
def aJ8 :FSum:=⟨259,[h,a],[(.cells 1 Za [a,a,a,(.ptr 1 0)]),(.cells 1 Za [(.full 2),a]),b],[⟨.ret,[],⟨[a],[b],[]⟩⟩],by exact u6 xN⟩
theorem aK8 :Rt aJ8:=dp (ins:=[⟨279,cx aB 279 ⟨[oK,nH,oJ],[⟨282,cx aB 282 ⟨[xT,qk],[]⟩ .no⟩]⟩ .no⟩]) (at':= .no) (.nil _) (br.cons (cb (.cons tx (.cons lh (.cons md (.nil _)))) (br.cons (cb (.cons nK (.cons kB (.nil _))) (br.nil _)) (br.nil _))) (br.nil _)) λ_=>by kernel_rfl
def aF1 :FSum:=⟨196,[h,a],[ag,d,d,i,i,o,ab,ac,w,b],[⟨.ret,[],⟨[(.tup [])],[w,b],[]⟩⟩],by exact u31 vW⟩
theorem aG1 :Rt aF1:=rq (.no) (.cons aK8 (.cons nI (.nil _))) λ_=>by kernel_rfl
def aq2 :FSum:=⟨245,[h,(.agg [a,(.full 1)]),(.full 2),(.full 3),(.full 4)],[(.cells 1 Zb [a,a,a,a,a,(.full 5),(.full 6),a,(.full 1),a,(.full 7),a,a,(.full 8),(.ptr 9 0),(.ptr 10 0),(.ptr 11 0),a,a,a,a,a,a,a,c]),i,b,b,d,d,d,i,o,(.cells 1 Za [(.full 12),a]),(.cells 1 Za [a,a,a,(.ptr 9 0)]),r,b],[⟨.ret,[],⟨[(.tup [])],[(.cells 1 Zb [a,a,a,a,a,(.full 5),(.full 6),a,(.full 1),a,(.full 7),a,a,(.full 8),(.ptr 9 0),(.ptr 10 0),(.ptr 11 0),a,a,a,a,a,a,a,c]),b,b,b],[]⟩⟩],by exact u34 tN⟩
theorem ar7 :Rt aq2:=rq ((.n .no (.n .no (.n .no (.n .no (.n .no (.n .no (.n (.n .no (.n (.lp [14] ⟨.normal,[36],⟨[a],[b],[]⟩⟩ [⟨(.exit 0),[],⟨[],[b],[]⟩⟩] .no) .no)) .no)))))))) (.cons aR8 (.cons gy (.cons gh (.nil _)))) λ_=>by kernel_rfl
def ql :FSum:=⟨185,[h,(.full 1),(.full 2)],[(.cells 1 Zb [a,a,a,a,a,(.full 3),(.full 4),a,(.full 5),a,(.full 6),a,a,(.full 7),(.ptr 8 0),(.ptr 9 0),(.ptr 10 0),a,a,a,a,a,a,a,c]),b,d,d,d,i,i,o,(.cells 1 Za [(.full 11),a]),(.cells 1 Za [a,a,a,(.ptr 8 0)]),r,b],[⟨.ret,[],⟨[(.tup [])],[(.cells 1 Zb [a,a,a,a,a,(.full 3),(.full 4),a,(.full 5),a,(.full 6),a,a,(.full 7),(.ptr 8 0),(.ptr 9 0),(.ptr 10 0),a,a,a,a,a,a,a,c]),b,b],[]⟩⟩],by exact u32 qi⟩
theorem wq :Rt ql:=rq (.no) (.cons gh (.cons aQ1 (.cons ar7 (.nil _)))) λ_=>by kernel_rfl
def aF0 :FSum:=⟨197,[h,a],[ae,d,d,i,i,o,ab,ac,w,b],[⟨.ret,[],⟨[(.tup [])],[ae,w,b],[]⟩⟩],by exact u31 vV⟩
theorem aG0 :Rt aF0:=dp (ins:=[⟨242,cx aB 242 ⟨[nG,nF],[⟨260,cx aB 260 ⟨[pa,rn,ql],[]⟩ .no⟩]⟩ .no⟩]) (at':= .no) (.cons xA (.nil _)) (br.cons (cb (.cons lg (.cons nI (.nil _))) (br.cons (cb (.cons vh (.cons xV (.cons wq (.nil _)))) (br.nil _)) (br.nil _))) (br.nil _)) λ_=>by kernel_rfl
def ah3 :FSum:=⟨198,[h,a],[ae,d,d,i,i,o,ab,ac,w,b],[⟨.ret,[],⟨[(.tup [])],[ae,w,b],[]⟩⟩],by exact u31 sf⟩
theorem ai8 :Rt ah3:=dp (ins:=[⟨242,cx aB 242 ⟨[nG,nF],[⟨261,cx aB 261 ⟨[pa,ql],[]⟩ .no⟩]⟩ .no⟩]) (at':= .no) (.cons xA (.nil _)) (br.cons (cb (.cons lg (.cons nI (.nil _))) (br.cons (cb (.cons vh (.cons wq (.nil _))) (br.nil _)) (br.nil _))) (br.nil _)) λ_=>by kernel_rfl
def aP1 :FSum:=⟨97,[h,(.agg [a,a])],[ae,d,d,i,i,o,ab,ac,w,b],[⟨.ret,[],⟨[a],[ae,w,b],[]⟩⟩],by exact u32 zf⟩
theorem aQ0 :Rt aP1:=rq (.no) (.cons yT (.cons av9 (.cons kC (.cons aj3 (.cons aw8 (.cons av8 (.cons ai6 (.cons aj4 (.cons aw0 (.cons ai7 (.cons aG1 (.cons aG4 (.cons aG0 (.cons ai8 (.nil _))))))))))))))) λ_=>by kernel_rfl
def au7 :FSum:=⟨49,[h],[ar,az,d,d,i,i,o,(.cells 1 Za [(.full 10),a]),al,w,b],[⟨.ret,[],⟨[(.tup [(.agg [a,a]),k,a])],[az,w,b],[]⟩⟩],by exact u33 uM⟩
theorem aw2 :Rt au7:=rq (.no) (.cons ad7 (.cons aQ0 (.nil _))) λ_=>by kernel_rfl
def aF3 :FSum:=⟨20,[h],[ar,az,d,d,i,i,o,(.cells 1 Za [(.full 10),a]),al,w,b],[⟨.ret,[],⟨[ah],[az,w,b],[]⟩⟩],by exact u33 vZ⟩
theorem aG5 :Rt aF3:=rq ((.n .no (.n .no (.n (.lp [1,9,10] ⟨.normal,[4],⟨[a],[az,w,b],[]⟩⟩ [⟨.ret,[2,3],⟨[a,a],[az,w,b],[]⟩⟩] .no) .no)))) (.cons aw2 (.nil _)) λ_=>by kernel_rfl
def ap9 :FSum:=⟨51,[h],[ag,d,d,i,i,o,ab,ac,r,d],[⟨.ret,[],⟨[(.tup [(.agg [c,(.full 10),(.full 11)]),a])],[],[b,b]⟩⟩],by exact u30 tK⟩
theorem ar2 :Rt ap9:=rq (.no) (.cons gh (.nil _)) λ_=>by kernel_rfl
def ah5 :FSum:=⟨21,[h],[ar,ap,d,d,i,i,o,(.cells 1 Za [(.full 10),a]),al,r,d],[⟨.ret,[],⟨[(.tup [(.agg [c,(.full 11),(.full 12)]),a])],[],[b,b]⟩⟩],by exact u33 si⟩
theorem aj0 :Rt ah5:=dp (ins:=[⟨50,cx aB 50 ⟨[],[]⟩ .no⟩]) (at':= .no) (.cons ar2 (.nil _)) (br.cons (cb (.nil _) (br.nil _)) (br.nil _)) λ_=>by kernel_rfl
def aq7 :FSum:=⟨52,[h],[ar,ap,d,d,i,i,o,(.cells 1 Za [(.full 10),a]),al,r,d],[q],by exact u33 tP⟩
theorem as5 :Rt aq7:=rq (.no) (.cons ad7 (.nil _)) λ_=>by kernel_rfl
def au6 :FSum:=⟨22,[h],[ar,ap,d,d,i,i,o,(.cells 1 Za [(.full 10),a]),al,r,d],[q],by exact u33 uL⟩
theorem aw1 :Rt au6:=dp (ins:=[⟨53,cx aB 53 ⟨[kA],[⟨50,cx aB 50 ⟨[],[]⟩ .no⟩]⟩ .no⟩]) (at':= .no) (.cons as5 (.nil _)) (br.cons (cb (.cons kC (.nil _)) (br.cons (cb (.nil _) (br.nil _)) (br.nil _))) (br.nil _)) λ_=>by kernel_rfl
def bQ8 :FSum:=⟨23,[(.agg [c,j,j]),(.agg [c,j,j])],[],[q],by exact u6 aO4⟩
theorem bV7 :Rt bQ8:=rq ((.n .no (.n .no (.n (.n .no (.n (.lp [] ⟨.normal,[5],⟨[a],[],[]⟩⟩ [⟨.ret,[4],⟨[k],[],[]⟩⟩,⟨(.exit 0),[],⟨[],[],[]⟩⟩] .no) .no)) (.n (.n .no (.n (.lp [] ⟨.normal,[6],⟨[a],[],[]⟩⟩ [⟨.ret,[4],⟨[k],[],[]⟩⟩,⟨(.exit 2),[],⟨[],[],[]⟩⟩] .no) .no)) .no))))) (.nil _) λ_=>by kernel_rfl
def bO7 :FSum:=⟨5,[],[],[q],λ_=>jx⟩
theorem bU6 :Rt bO7:=rq (.no) (.cons bi8 (.cons bU4 (.cons aG5 (.cons aj0 (.cons aw1 (.cons bV7 (.nil _))))))) λ_=>by kernel_rfl
def bD2 :FSum:=⟨100,[y],[],[p],by exact u9 uy⟩
theorem bF7 :Rt bD2:=rq (.no) (.nil _) λ_=>by kernel_rfl
def bS2 :FSum:=⟨101,[y],[],[p],by exact u9 wZ⟩
theorem bW8 :Rt bS2:=rq (.no) (.cons yf (.nil _)) λ_=>by kernel_rfl
def bS1 :FSum:=⟨102,[y],[],[p],by exact u9 wY⟩
theorem bW7 :Rt bS1:=rq (.no) (.cons yf (.nil _)) λ_=>by kernel_rfl
def bS0 :FSum:=⟨54,[y],[],[⟨.ret,[],⟨[(.tup [(.agg [a,a,a,a]),a])],[],[]⟩⟩],by exact u9 pH⟩
theorem ak1 :Rt bS0:=rq ((.n .no (.n .no (.n (.dr [0,2,4,1,3,5,6,7,8]) (.jn [2] [] [⟨.normal,[],⟨[],[(.cells 1 Zb [a,a,a,a])],[]⟩⟩] .no (.n .no (.n (.n (.lp [2] ⟨.normal,[],⟨[],[(.cells 1 Zb [a,a,a,a])],[]⟩⟩ [⟨(.exit 0),[],⟨[],[(.cells 1 Zb [a,a,a,a])],[]⟩⟩] .no) .no) .no))))))) (.cons aI4 (.cons bF7 (.cons bW8 (.cons bW7 (.nil _))))) λ_=>by kernel_rfl
def cg1 :FSum:=⟨55,[a,a],[],[⟨.ret,[],⟨[(.agg [(.full 0),a])],[],[(.arr Zb aq)]⟩⟩],by exact u2 zq⟩
theorem ch7 :Rt cg1:=rq ((.n .no (.n .no (.n (.n .no (.n (.lp [0,1] ⟨.normal,[6],⟨[a],[(.cells 1 Zb [NS,g]),(.cells 1 Zb [(.full 2),a])],[(.arr Zb aq)]⟩⟩ [⟨(.exit 0),[],⟨[],[(.cells 1 Zb [NS,g]),(.cells 1 Zb [(.full 2),a])],[(.arr Zb aq)]⟩⟩] .no) .no)) .no)))) (.nil _) λ_=>by kernel_rfl
def cg3 :FSum:=⟨24,[y],[],[⟨.ret,[],⟨[(.tup [(.agg [a,j,j,a,l,a,l,a,a,a,l,a,l,a,j,a,a,a,a,a,g,a,j,(.full 0),a,NS,(.full 1),(.full 2),(.cint .u64 0),g,g,g,g,a]),a])],[],[(.arr Zb aq),b,b]⟩⟩],by exact u9 ni⟩
theorem ch9 :Rt cg3:=rq ((.n .no (.n .no (.n .no (.n (.dr [0,1,2,3,4,5,6,7,8,10,11,12,9,13,14,15,16]) .no))))) (.cons ak1 (.cons ch7 (.nil _))) λ_=>by kernel_rfl
def cg7 :FSum:=⟨6,[y],[],[⟨.ret,[],⟨[(.tup [(.agg [a,j,j,a,l,a,l,a,a,a,l,a,l,a,j,a,a,a,a,a,g,a,j,(.full 0),a,NS,(.full 1),(.full 2),(.cint .u64 0),g,g,g,g,a,k,k]),a])],[],[(.arr Zb aq),b,b]⟩⟩],by exact u9 nj⟩
theorem ci0 :Rt cg7:=rq (.no) (.cons ch9 (.nil _)) λ_=>by kernel_rfl
def bn6 :FSum:=⟨107,[c],[],[⟨.ret,[],⟨[(.agg [a,a,a,a,a,a,a,a])],[],[]⟩⟩],ke⟩
theorem ya :Rt bn6:=rq ((.n .no (.n .no (.n (.n .no (.n (.lp [1] ⟨.normal,[4,0],⟨[a,c],[ao],[]⟩⟩ [⟨(.exit 0),[],⟨[],[ao],[]⟩⟩] .no) .no)) .no)))) (.nil _) λ_=>by kernel_rfl
def bn7 :FSum:=⟨108,[(.agg [a,a,a,a,a,a,a,a])],[],[⟨.ret,[],⟨[c],[],[]⟩⟩],by exact u8 kX⟩
theorem yd :Rt bn7:=rq ((.n .no (.n .no (.n .no (.n .no (.n (.n .no (.n (.lp [] ⟨.normal,[6,5,3,4],⟨[a,a,c,c],[],[]⟩⟩ [⟨(.exit 0),[3],⟨[c],[],[]⟩⟩] .no) .no)) .no)))))) (.nil _) λ_=>by kernel_rfl
def bB7 :FSum:=⟨62,[c,c],[],[⟨.ret,[],⟨[c],[],[]⟩⟩],by exact u2 jT⟩
theorem ab5 :Rt bB7:=rq ((.n .no (.n .no (.n .no (.n .no (.n (.n .no (.n (.lp [2] ⟨.normal,[8],⟨[a],[ao],[]⟩⟩ [⟨(.exit 0),[],⟨[],[ao],[]⟩⟩] (.n .no (.n (.n (.n .no (.n (.lp [2] ⟨.normal,[9],⟨[a],[ao],[]⟩⟩ [⟨(.exit 2),[],⟨[],[ao],[]⟩⟩] .no) .no)) .no) .no))) .no)) .no)))))) (.cons ya (.cons yd (.nil _))) λ_=>by kernel_rfl
def bP1 :FSum:=⟨61,[c,c],[],[⟨.ret,[],⟨[c],[],[]⟩⟩],by exact u2 jy⟩
theorem xj :Rt bP1:=rq ((.n .no (.n .no (.n .no (.n (.n .no (.n (.lp [0] ⟨.normal,[7],⟨[a],[ao],[]⟩⟩ [⟨(.exit 0),[],⟨[],[ao],[]⟩⟩] .no) .no)) .no))))) (.cons ya (.cons yd (.nil _))) λ_=>by kernel_rfl
def cg6 :FSum:=⟨28,[j],[],[⟨.ret,[],⟨[c],[],[]⟩⟩],uR⟩
theorem bd8 :Rt cg6:=rq ((.n .no (.n .no (.n .no (.n (.n .no (.n (.lp [] ⟨.normal,[5,3,4],⟨[a,c,c],[],[]⟩⟩ [⟨(.exit 0),[3,4],⟨[c,c],[],[]⟩⟩] .no) .no)) .no))))) (.cons ab5 (.cons xj (.nil _))) λ_=>by kernel_rfl
def bD5 :FSum:=⟨8,[j,ax],[],[⟨.ret,[],⟨[(.full 0)],[],[b]⟩⟩],by exact u17 qz⟩
theorem bG0 :Rt bD5:=rq ((.n .no (.n .no (.n (.n .no (.n (.lp [] ⟨.normal,[6,5],⟨[a,(.full 2)],[],[b]⟩⟩ [⟨(.exit 0),[5],⟨[(.full 2)],[],[b]⟩⟩] .no) .no)) (.n .no (.n (.n .no (.n (.lp [] ⟨.normal,[7,5],⟨[a,(.full 5)],[],[b]⟩⟩ [⟨(.exit 2),[5],⟨[(.full 5)],[],[b]⟩⟩] .no) .no)) .no)))))) (.cons bd8 (.nil _)) λ_=>by kernel_rfl
def ct1 :FSum:=⟨44,[j],[],[⟨.ret,[],⟨[c],[],[]⟩⟩],xL⟩
theorem bq6 :Rt ct1:=rq ((.n .no (.n .no (.n (.n .no (.n (.lp [] ⟨.normal,[8,3],⟨[a,c],[],[]⟩⟩ [⟨(.exit 0),[3],⟨[c],[],[]⟩⟩] .no) .no)) .no)))) (.nil _) λ_=>by kernel_rfl
def cs9 :FSum:=⟨43,[j],[],[⟨.ret,[],⟨[c],[],[]⟩⟩],xK⟩
theorem bq5 :Rt cs9:=rq ((.n .no (.n .no (.n (.n .no (.n (.lp [] ⟨.normal,[8,3],⟨[a,c],[],[]⟩⟩ [⟨(.exit 0),[3],⟨[c],[],[]⟩⟩] .no) .no)) .no)))) (.nil _) λ_=>by kernel_rfl
def bB1 :FSum:=⟨15,[j],[],[⟨.ret,[],⟨[(.tup [(.full 0),ax,a])],[],[b]⟩⟩],ib⟩
theorem ab2 :Rt bB1:=rq ((.n .no (.n (.n .no (.n (.jn [] [] [⟨.normal,[13],⟨[k],[],[]⟩⟩] .no .no) .no)) (.n .no (.n .no (.n .no (.n (.n .no (.n (.lp [] ⟨.normal,[36,7],⟨[a,c],[],[]⟩⟩ [⟨(.exit 1),[7],⟨[c],[],[]⟩⟩] .no) .no)) .no))))))) (.cons bq6 (.cons bq5 (.cons dw (.nil _)))) λ_=>by kernel_rfl
def wl :FSum:=⟨153,[h,c],[bg,d,d,i,i,o],[q],by exact u23 er⟩
theorem aG3 :Rt wl:=rq (.no) (.nil _) λ_=>by kernel_rfl
def aP0 :FSum:=⟨154,[j],[],[⟨.ret,[],⟨[(.tup [.nilp,a])],[],[]⟩⟩,⟨.ret,[],⟨[ai],[],[(.cells 1 Zb [(.full 1),g]),b]⟩⟩],wD⟩
theorem bU1 :Rt aP0:=rq (.no) (.cons aH7 (.cons dw (.nil _))) λ_=>by kernel_rfl
def uV :FSum:=⟨93,[.nilp,a],[],[⟨.ret,[],⟨[(.tup [g,(.cint .i64 1)])],[],[]⟩⟩],uH⟩
theorem av5 :Rt uV:=rq (.no) (.nil _) λ_=>by kernel_rfl
def yN :FSum:=⟨94,[h],[bg,d,d,i,i,o],[q],by exact u22 lI⟩
theorem qb :Rt yN:=rq (.no) (.nil _) λ_=>by kernel_rfl
def bE1 :FSum:=⟨202,[.nilp,a,a,a],[],[⟨.ret,[],⟨[(.tup [.nilp,(.cint .i64 1)])],[],[]⟩⟩],by exact u3 aH4⟩
theorem bG7 :Rt bE1:=rq (.no) (.nil _) λ_=>by kernel_rfl
def tV :FSum:=⟨155,[h],[bg,d,d,i,i,o],[q],by exact u22 tO⟩
theorem as0 :Rt tV:=rq (.no) (.cons qb (.cons bG7 (.nil _))) λ_=>by kernel_rfl
def av2 :FSum:=⟨152,[.nilp],[],[⟨.ret,[],⟨[NS],[],[]⟩⟩],λ_=>nA⟩
theorem pf :Rt av2:=rq (.no) (.nil _) λ_=>by kernel_rfl
def aK0 :FSum:=⟨203,[.nilp],[],[⟨.ret,[],⟨[g],[],[]⟩⟩],λ_=>rm⟩
theorem yh :Rt aK0:=rq ((.n .no (.n .no (.n (.n .no (.n (.lp [] ⟨.normal,[9,3],⟨[g,g],[],[]⟩⟩ [⟨(.exit 0),[3],⟨[g],[],[]⟩⟩] .no) .no)) .no)))) (.cons pf (.nil _)) λ_=>by kernel_rfl
def wk :FSum:=⟨156,[h],[bg,d,d,i,i,o],[p],by exact u22 vX⟩
theorem aG2 :Rt wk:=rq (.no) (.cons qb (.cons yh (.nil _))) λ_=>by kernel_rfl
def yO :FSum:=⟨94,[h],[(.cells 1 Za [a,a,a,a,a,(.full 1),(.full 2),a,(.full 3),a,(.full 4),a,a,(.full 5),(.ptr 6 0), .nilp, .nilp,a,a,a,a,a,a,a,c]),d,d,i,i,o,(.cells 1 Za [(.full 7),a]),d],[q],by exact u24 ge⟩
theorem qc :Rt yO:=rq (.no) (.nil _) λ_=>by kernel_rfl
def bi4 :FSum:=⟨202,[h,a,a,a],[(.cells 1 Za [(.full 1),a]),d],[⟨.ret,[],⟨[(.tup [.nilp,a])],[],[]⟩⟩,⟨.ret,[],⟨[(.tup [(.ptr 2 0),g])],[],[(.cells 1 Zb [a,a,a,h])]⟩⟩],by exact u5 lQ⟩
theorem bj5 :Rt bi4:=rq ((.n .no (.n .no (.n .no (.n .no (.n (.n .no (.n (.lp [] ⟨.normal,[41],⟨[a],[],[]⟩⟩ [⟨.ret,[8,9],⟨[.nilp,(.cint .i64 2)],[],[]⟩⟩,⟨(.exit 1),[],⟨[],[],[]⟩⟩] .no) .no)) .no)))))) (.cons zx (.cons nK (.cons rr (.cons lh (.cons md (.nil _)))))) λ_=>by kernel_rfl
def aq0 :FSum:=⟨99,[h],[(.cells 1 Za [a,a,a,a,a,(.full 1),(.full 2),a,(.full 3),a,(.full 4),a,a,(.full 5),(.ptr 6 0), .nilp, .nilp,a,a,a,a,a,a,a,c]),d,d,i,i,o,(.cells 1 Za [(.full 7),a]),d],[⟨.ret,[],⟨[(.agg [a,a,NS])],[],[]⟩⟩],by exact u24 tL⟩
theorem ar3 :Rt aq0:=rq (.no) (.cons pf (.nil _)) λ_=>by kernel_rfl
def aq1 :FSum:=⟨99,[h],[(.cells 1 Za [a,a,a,a,a,(.full 1),(.full 2),a,(.full 3),a,(.full 4),a,a,(.full 5),(.ptr 6 0),(.ptr 7 0), .nilp,a,a,a,a,a,a,a,c]),d,d,i,i,o,(.cells 1 Za [(.full 8),a]),ac,d],[⟨.ret,[],⟨[(.agg [a,a,(.full 9)])],[],[m]⟩⟩],by exact u27 oo⟩
theorem ar4 :Rt aq1:=rq (.no) (.cons rB (.nil _)) λ_=>by kernel_rfl
def rM :FSum:=⟨155,[h],[(.cells 1 Zb [a,a,a,a,a,(.full 1),(.full 2),a,(.full 3),a,(.full 4),a,a,(.full 5),(.ptr 6 0), .nilp, .nilp,a,a,a,a,a,a,a,c]),d,d,i,i,o,(.cells 1 Za [(.full 7),a]),d],[⟨.ret,[],⟨[k],[(.cells 1 Zb [a,a,a,a,a,(.full 1),(.full 2),a,(.full 3),a,(.full 4),a,a,(.full 5),(.ptr 6 0), .nilp, .nilp,a,a,a,a,a,a,a,c])],[]⟩⟩,⟨.ret,[],⟨[k],[(.cells 1 Zb [a,a,a,a,a,(.full 1),(.full 2),a,(.full 3),a,(.full 4),a,a,(.full 5),(.ptr 6 0),(.ptr 8 0), .nilp,a,a,a,a,a,a,a,c])],[(.cells 1 Zb [a,a,a,(.ptr 6 0)])]⟩⟩],by exact u24 kj⟩
theorem ad4 :Rt rM:=rq (.no) (.cons qc (.cons bj5 (.cons ar3 (.cons aj3 (.cons ar4 (.nil _)))))) λ_=>by kernel_rfl
def tT :FSum:=⟨156,[h],[(.cells 1 Za [a,a,a,a,a,(.full 1),(.full 2),a,(.full 3),a,(.full 4),a,a,(.full 5),(.ptr 6 0), .nilp, .nilp,a,a,a,a,a,a,a,c]),d,d,i,i,o,(.cells 1 Za [(.full 7),a]),d],[p],by exact u24 oq⟩
theorem ar8 :Rt tT:=rq (.no) (.cons qc (.cons yh (.nil _))) λ_=>by kernel_rfl
def yP :FSum:=⟨94,[h],[(.cells 1 Za [a,a,a,a,a,(.full 1),(.full 2),a,(.full 3),a,(.full 4),a,a,(.full 5),(.ptr 6 0),(.ptr 7 0), .nilp,a,a,a,a,a,a,a,c]),d,d,i,i,o,(.cells 1 Za [(.full 8),a]),ac,d],[q],by exact u27 lJ⟩
theorem yU :Rt yP:=rq (.no) (.nil _) λ_=>by kernel_rfl
def av3 :FSum:=⟨203,[h],[(.cells 1 Za [a,a,a,(.ptr 1 0)]),(.cells 1 Za [(.full 2),a]),d],[p],by exact u5 oY⟩
theorem ax5 :Rt av3:=rq ((.n .no (.n .no (.n (.n .no (.n (.lp [] ⟨.normal,[9,3],⟨[a,a],[],[]⟩⟩ [⟨(.exit 0),[3],⟨[a],[],[]⟩⟩] .no) .no)) .no)))) (.cons rB (.nil _)) λ_=>by kernel_rfl
def tU :FSum:=⟨156,[h],[(.cells 1 Za [a,a,a,a,a,(.full 1),(.full 2),a,(.full 3),a,(.full 4),a,a,(.full 5),(.ptr 6 0),(.ptr 7 0), .nilp,a,a,a,a,a,a,a,c]),d,d,i,i,o,(.cells 1 Za [(.full 8),a]),ac,d],[p],by exact u27 ot⟩
theorem ar9 :Rt tU:=rq (.no) (.cons yU (.cons ax5 (.nil _))) λ_=>by kernel_rfl
def bA4 :FSum:=⟨56,[y,j,ax],[],[⟨.ret,[],⟨[(.tup [.nilp,a])],[],[]⟩⟩,⟨.ret,[],⟨[ai],[],[(.cells 1 Zb [a,a,a,a,a,(.full 1),(.full 2),a,(.full 3),a,(.full 4),a,a,(.full 5),(.ptr 6 0), .nilp,(.ptr 7 0),a,a,a,a,a,a,a,c]),b,b,(.arr Zb x),(.arr Zb x),m,(.cells 1 Zb [(.full 8),a]),w,b]⟩⟩,⟨.ret,[],⟨[ai],[],[ae,b,b,(.arr Zb x),(.arr Zb x),m,(.cells 1 Zb [(.full 9),a]),(.cells 1 Zb [a,a,a,(.ptr 6 0)]),w,b]⟩⟩],by exact u26 jp⟩
theorem bE3 :Rt bA4:=dp (ins:=[⟨103,cx aB 103 ⟨[wl,aP0,uV,tV,wk,bn1,xP,rM,tT,tU],[]⟩ (.n .no (.n .no (.n .no (.n .no (.n .no (.n .no (.sz 6011 (.jn [2] [] [⟨.ret,[6],⟨[k],[(.cells 1 Zb [a,a,a,a,a,(.full 3),(.full 4),a,(.full 5),a,(.full 6),a,a,(.full 7),(.ptr 9 0), .nilp, .nilp,a,a,a,a,a,a,a,c])],[]⟩⟩,⟨.ret,[6],⟨[k],[(.cells 1 Zb [a,a,a,a,a,(.full 3),(.full 4),a,(.full 5),a,(.full 6),a,a,(.full 7),(.ptr 9 0),(.ptr 11 0), .nilp,a,a,a,a,a,a,a,c])],[(.cells 1 Zb [a,a,a,(.ptr 9 0)])]⟩⟩,⟨.normal,[],⟨[],[(.cells 1 Zb [a,a,a,a,a,(.full 3),(.full 4),a,(.full 5),a,(.full 6),a,a,(.full 7),(.ptr 9 0), .nilp, .nilp,a,a,a,a,a,a,a,c])],[]⟩⟩,⟨.normal,[],⟨[],[(.cells 1 Zb [a,a,a,a,a,(.full 3),(.full 4),a,(.full 5),a,(.full 6),a,a,(.full 7),(.ptr 9 0),(.ptr 11 0), .nilp,a,a,a,a,a,a,a,c])],[(.cells 1 Zb [a,a,a,(.ptr 9 0)])]⟩⟩] .no .no) .no)))))))⟩]) (at':= .no) (.cons aH8 (.nil _)) (br.cons (cb (.cons aG3 (.cons bU1 (.cons av5 (.cons as0 (.cons aG2 (.cons bp4 (.cons ru (.cons ad4 (.cons ar8 (.cons ar9 (.nil _))))))))))) (br.nil _)) (br.nil _)) λ_=>by kernel_rfl
def bB2 :FSum:=⟨25,[y,j],[],[⟨.ret,[],⟨[(.tup [.nilp,a])],[],[]⟩⟩,⟨.ret,[],⟨[ai],[],[(.cells 1 Zb [a,a,a,a,a,(.full 1),(.full 2),a,(.full 3),a,(.full 4),a,a,(.full 5),(.ptr 6 0), .nilp,(.ptr 7 0),a,a,a,a,a,a,a,c]),b,b,(.arr Zb x),(.arr Zb x),m,(.cells 1 Zb [(.full 8),a]),w,b]⟩⟩,⟨.ret,[],⟨[ai],[],[ae,b,b,(.arr Zb x),(.arr Zb x),m,(.cells 1 Zb [(.full 9),a]),(.cells 1 Zb [a,a,a,(.ptr 6 0)]),w,b]⟩⟩],by exact u10 ut⟩
theorem bE6 :Rt bB2:=rq (.no) (.cons ab2 (.cons bE3 (.nil _))) λ_=>by kernel_rfl
def tR :FSum:=⟨99,[.nilp],[],[⟨.ret,[],⟨[(.agg [g,g,NS])],[],[]⟩⟩],λ_=>tM⟩
theorem ar5 :Rt tR:=rq (.no) (.nil _) λ_=>by kernel_rfl
def aF4 :FSum:=⟨27,[h,c,c],[(.cells 1 Za [.nilp,a,(.fn 57 [] []),k,k])],[q],by exact u5 wc⟩
theorem aG6 :Rt aF4:=dp (ins:=[⟨53,cx aB 53 ⟨[tR],[⟨50,cx aB 50 ⟨[],[]⟩ .no⟩]⟩ .no⟩]) (at':=(.n .no (.n .no (.n (.n (.jn [] [] [⟨.normal,[12],⟨[k],[],[]⟩⟩] .no .no) .no) .no)))) (.nil _) (br.cons (cb (.cons ar5 (.nil _)) (br.cons (cb (.nil _) (br.nil _)) (br.nil _))) (br.nil _)) λ_=>by kernel_rfl
def tS :FSum:=⟨99,[h],[au,d,d,i,i,o,(.cells 1 Za [(.full 8),a]),r,d],[⟨.ret,[],⟨[(.agg [a,a,NS])],[],[]⟩⟩],by exact u27 qh⟩
theorem ar6 :Rt tS:=rq (.no) (.cons pf (.nil _)) λ_=>by kernel_rfl
def uX :FSum:=⟨106,[h],[au,d,d,i,i,o,(.cells 1 Za [(.full 8),a]),r,d],[p],by exact u27 rk⟩
theorem av7 :Rt uX:=rq (.no) (.nil _) λ_=>by kernel_rfl
def aq4 :FSum:=⟨27,[h,c,c],[(.cells 1 Za [(.ptr 1 0),a,(.fn 59 [] []),k,k]),(.cells 1 Za [a,a,a,a,a,(.full 2),(.full 3),a,(.full 4),a,(.full 5),a,a,(.full 6),(.ptr 7 0), .nilp,(.ptr 8 0),a,a,a,a,a,a,a,c]),d,d,i,i,o,ab,r,d],[q],by exact u32 lB⟩
theorem as2 :Rt aq4:=dp (ins:=[⟨53,cx aB 53 ⟨[tS],[⟨50,cx aB 50 ⟨[],[]⟩ .no⟩]⟩ .no⟩,⟨60,cx aB 60 ⟨[uX],[⟨50,cx aB 50 ⟨[],[]⟩ .no⟩]⟩ .no⟩]) (at':=(.n .no (.n .no (.n (.n (.jn [] [] [⟨.normal,[12],⟨[k],[],[]⟩⟩] .no .no) .no) .no)))) (.nil _) (br.cons (cb (.cons ar6 (.nil _)) (br.cons (cb (.nil _) (br.nil _)) (br.nil _))) (br.cons (cb (.cons av7 (.nil _)) (br.cons (cb (.nil _) (br.nil _)) (br.nil _))) (br.nil _))) λ_=>by kernel_rfl
def aq5 :FSum:=⟨27,[h,c,c],[ar,ap,d,d,i,i,o,(.cells 1 Za [(.full 10),a]),al,r,d],[q],by exact u35 lC⟩
theorem as3 :Rt aq5:=dp (ins:=[⟨53,cx aB 53 ⟨[kA],[⟨50,cx aB 50 ⟨[],[]⟩ .no⟩]⟩ .no⟩,⟨60,cx aB 60 ⟨[nE],[⟨50,cx aB 50 ⟨[],[]⟩ .no⟩]⟩ .no⟩]) (at':=(.n .no (.n .no (.n (.n (.jn [] [] [⟨.normal,[12],⟨[k],[],[]⟩⟩] .no .no) .no) .no)))) (.nil _) (br.cons (cb (.cons kC (.nil _)) (br.cons (cb (.nil _) (br.nil _)) (br.nil _))) (br.cons (cb (.cons rz (.nil _)) (br.cons (cb (.nil _) (br.nil _)) (br.nil _))) (br.nil _))) λ_=>by kernel_rfl
def aq6 :FSum:=⟨27,[h,c,c],[(.cells 1 Za [(.ptr 1 0),a,(.fn 58 [] []),k,k]),ap,d,d,i,i,o,(.cells 1 Za [(.full 10),a]),al,r,d],[q],by exact u35 lD⟩
theorem as4 :Rt aq6:=dp (ins:=[⟨53,cx aB 53 ⟨[kA],[⟨50,cx aB 50 ⟨[],[]⟩ .no⟩]⟩ .no⟩,⟨60,cx aB 60 ⟨[nE],[⟨50,cx aB 50 ⟨[],[]⟩ .no⟩]⟩ .no⟩]) (at':=(.n .no (.n .no (.n (.n (.jn [] [] [⟨.normal,[12],⟨[k],[],[]⟩⟩] .no .no) .no) .no)))) (.nil _) (br.cons (cb (.cons kC (.nil _)) (br.cons (cb (.nil _) (br.nil _)) (br.nil _))) (br.cons (cb (.cons rz (.nil _)) (br.cons (cb (.nil _) (br.nil _)) (br.nil _))) (br.nil _))) λ_=>by kernel_rfl
def bA6 :FSum:=⟨7,[y,j],[],[⟨.ret,[],⟨[(.tup [.nilp,a])],[],[]⟩⟩,⟨.ret,[],⟨[ai],[],[(.cells 1 Zb [(.ptr 1 0),a,(.fn 59 [] []),k,k]),(.cells 1 Zb [a,a,a,a,a,(.full 2),(.full 3),a,(.full 4),a,(.full 5),a,a,(.full 6),(.ptr 7 0), .nilp,(.ptr 8 0),a,a,a,a,a,a,a,c]),b,b,(.arr Zb x),(.arr Zb x),m,(.cells 1 Zb [(.full 9),a]),w,b]⟩⟩,⟨.ret,[],⟨[ai],[],[(.cells 1 Zb [(.ptr 1 0),a,(.fn 57 [] []),k,k]),az,b,b,(.arr Zb x),(.arr Zb x),m,(.cells 1 Zb [(.full 10),a]),(.cells 1 Zb [a,a,a,(.ptr 7 0)]),w,b]⟩⟩,⟨.ret,[],⟨[ai],[],[(.cells 1 Zb [(.ptr 1 0),a,(.fn 58 [] []),k,k]),az,b,b,(.arr Zb x),(.arr Zb x),m,(.cells 1 Zb [(.full 10),a]),(.cells 1 Zb [a,a,a,(.ptr 7 0)]),w,b]⟩⟩],by exact u10 jS⟩
theorem bE4 :Rt bA6:=rq (.no) (.cons bE6 (.cons ab2 (.cons bd1 (.cons aG6 (.cons aH9 (.cons as2 (.cons aI0 (.cons as3 (.cons as4 (.nil _)))))))))) λ_=>by kernel_rfl
def bR0 :FSum:=⟨109,[(.agg [(.leaf af),a])],[],[⟨.ret,[],⟨[(.full 0)],[],[m]⟩⟩],by exact u2 wO⟩
theorem bV9 :Rt bR0:=rq ((.n .no (.n .no (.n (.n .no (.n (.lp [] ⟨.normal,[4,3],⟨[a,(.full 2)],[],[m]⟩⟩ [⟨(.exit 0),[3],⟨[(.full 2)],[],[m]⟩⟩] .no) .no)) .no)))) (.nil _) λ_=>by kernel_rfl
def bS6 :FSum:=⟨63,[am],[],[⟨.ret,[],⟨[(.agg [a,a,(.full 0)])],[],[m]⟩⟩],by exact u34 kI⟩
theorem aR5 :Rt bS6:=rq (.no) (.cons bV9 (.nil _)) λ_=>by kernel_rfl
def bR4 :FSum:=⟨117,[(.agg [a,a,(.leaf v)])],[],[⟨.ret,[],⟨[(.agg [a,a,(.full 0)])],[],[m]⟩⟩],by exact u3 lW⟩
theorem aR4 :Rt bR4:=rq ((.n .no (.n .no (.n (.n .no (.n (.lp [2] ⟨.normal,[4],⟨[a],[(.cells 1 Zb [a,a,(.full 3)])],[m]⟩⟩ [⟨(.exit 0),[],⟨[],[(.cells 1 Zb [a,a,(.full 3)])],[m]⟩⟩] .no) .no)) .no)))) (.nil _) λ_=>by kernel_rfl
def cs5 :FSum:=⟨67,[a,(.agg [a,a,(.leaf v)])],[],[⟨.ret,[],⟨[(.tup [(.agg [a,a,a,(.full 0),g]),a])],[],[m]⟩⟩],by exact u4 oV⟩
theorem aK7 :Rt cs5:=rq ((.n .no (.n .no (.n (.n .no (.n (.lp [1] ⟨.normal,[6],⟨[a],[(.cells 1 Zb [g,g,g,NS,g])],[]⟩⟩ [⟨.ret,[5],⟨[(.cint .i64 2)],[(.cells 1 Zb [g,g,g,NS,g])],[]⟩⟩,⟨(.exit 0),[],⟨[],[(.cells 1 Zb [g,g,g,NS,g])],[]⟩⟩] .no) .no)) .no)))) (.cons aR4 (.nil _)) λ_=>by kernel_rfl
def cg2 :FSum:=⟨110,[a,(.agg [a,a,(.leaf v)])],[],[q],by exact u4 at7⟩
theorem ch8 :Rt cg2:=rq (.no) (.cons aK7 (.nil _)) λ_=>by kernel_rfl
def bR7 :FSum:=⟨111,[(.agg [a,a,(.leaf v)]),a],[],[p],by exact u4 pG⟩
theorem bW4 :Rt bR7:=rq ((.n .no (.n (.n .no (.n (.lp [] ⟨.normal,[5],⟨[a],[],[]⟩⟩ [⟨.ret,[4],⟨[a],[],[]⟩⟩,⟨(.exit 0),[],⟨[],[],[]⟩⟩] .no) .no)) .no))) (.nil _) λ_=>by kernel_rfl
def bD0 :FSum:=⟨112,[(.agg [a,a,(.leaf v)])],[],[p],by exact u3 qw⟩
theorem bF6 :Rt bD0:=rq ((.n .no (.n .no (.n (.n .no (.n (.lp [] ⟨.normal,[4,3],⟨[a,a],[],[]⟩⟩ [⟨(.exit 0),[3],⟨[a],[],[]⟩⟩] .no) .no)) .no)))) (.nil _) λ_=>by kernel_rfl
def bP2 :FSum:=⟨228,[a],[],[p],wG⟩
theorem bU7 :Rt bP2:=rq (.no) (.nil _) λ_=>by kernel_rfl
def bn8 :FSum:=⟨165,[a,a],[],[p],by exact u2 i4⟩
theorem ax0 :Rt bn8:=rq ((.n .no (.n .no (.jn [] [] [⟨.normal,[1],⟨[a],[],[]⟩⟩] .no (.n .no (.n (.n .no (.n (.lp [] ⟨.normal,[6,5],⟨[a,a],[],[]⟩⟩ [⟨.ret,[4],⟨[(.cint .i64 1099511627776)],[],[]⟩⟩,⟨(.exit 0),[5],⟨[a],[],[]⟩⟩] .no) .no)) .no)))))) (.cons bU7 (.nil _)) λ_=>by kernel_rfl
def bi1 :FSum:=⟨227,[a,a],[],[⟨.ret,[],⟨[ah],[],[]⟩⟩],by exact u2 qW⟩
theorem bj1 :Rt bi1:=rq (.no) (.cons ax0 (.nil _)) λ_=>by kernel_rfl
def bR5 :FSum:=⟨164,[a,a],[],[⟨.ret,[],⟨[ah],[],[]⟩⟩],by exact u2 wR⟩
theorem bW2 :Rt bR5:=rq ((.n .no (.n .no (.n .no (.n .no (.n (.lp [] ⟨.normal,[6],⟨[a],[],[]⟩⟩ [⟨.ret,[4,5],⟨[a,g],[],[]⟩⟩] .no) .no)))))) (.cons bj1 (.nil _)) λ_=>by kernel_rfl
def bC9 :FSum:=⟨113,[a,a],[],[⟨.ret,[],⟨[ah],[],[]⟩⟩],by exact u2 ux⟩
theorem bF5 :Rt bC9:=rq (.no) (.cons bW2 (.cons ax0 (.nil _))) λ_=>by kernel_rfl
def bR6 :FSum:=⟨64,[a,(.agg [a,a,(.leaf v)])],[],[⟨.ret,[],⟨[(.tup [(.agg [a,a]),k])],[],[]⟩⟩],by exact u4 wS⟩
theorem bW3 :Rt bR6:=rq ((.n .no (.n .no (.n .no (.jn [] [] [⟨.normal,[6],⟨[a],[],[]⟩⟩] .no (.n .no (.n (.n .no (.n (.lp [] ⟨.normal,[8,7],⟨[a,a],[],[]⟩⟩ [⟨(.exit 0),[7],⟨[a],[],[]⟩⟩] .no) .no)) (.n (.jn [] [] [⟨.normal,[43],⟨[k],[],[]⟩⟩] .no .no) (.n .no (.jn [1] [] [⟨.ret,[5],⟨[k],[(.cells 1 Zb [(.cint .i64 5),g])],[]⟩⟩,⟨.normal,[],⟨[],[(.cells 1 Zb [g,g])],[]⟩⟩] .no (.n .no (.n .no (.n (.jn [] [] [⟨.normal,[89],⟨[k],[],[]⟩⟩] .no .no) .no))))))))))))) (.cons ch8 (.cons bW4 (.cons bF6 (.cons bF5 (.nil _))))) λ_=>by kernel_rfl
def bo6 :FSum:=⟨114,[a,a],[],[⟨.ret,[],⟨[ah],[],[]⟩⟩],by exact u2 sH⟩
theorem bq2 :Rt bo6:=rq ((.n .no (.n .no (.n .no (.n (.n (.lp [] ⟨.normal,[6],⟨[a],[],[]⟩⟩ [⟨(.exit 0),[6],⟨[a],[],[]⟩⟩] .no) .no) .no))))) (.nil _) λ_=>by kernel_rfl
def bR9 :FSum:=⟨115,[(.leaf v),a],[],[p],by exact u2 jV⟩
theorem bW6 :Rt bR9:=rq ((.n .no (.n (.n .no (.n (.lp [] ⟨.normal,[5],⟨[a],[],[]⟩⟩ [⟨.ret,[4],⟨[a],[],[]⟩⟩,⟨(.exit 0),[],⟨[],[],[]⟩⟩] .no) .no)) .no))) (.nil _) λ_=>by kernel_rfl
def bR8 :FSum:=⟨65,[a,k,(.agg [a,a,(.leaf v)])],[],[⟨.ret,[],⟨[(.tup [(.agg [a,a]),k])],[],[]⟩⟩],by exact u5 wV⟩
theorem bW5 :Rt bR8:=rq ((.n .no (.n .no (.n .no (.n (.n .no (.n (.n .no (.n .no (.n (.n .no (.n (.lp [1] ⟨.normal,[12],⟨[a],[(.cells 1 Zb [g,g])],[]⟩⟩ [⟨.ret,[7],⟨[k],[(.cells 1 Zb [(.cint .i64 4),a])],[]⟩⟩,⟨(.exit 0),[],⟨[],[(.cells 1 Zb [g,g])],[]⟩⟩] (.n .no (.n (.n (.jn [] [] [⟨.normal,[65],⟨[k],[],[]⟩⟩] .no .no) .no) .no))) .no)) (.n (.jn [] [] [⟨.normal,[87],⟨[k],[],[]⟩⟩] .no .no) .no)))) .no)) (.n .no (.n (.n .no (.n (.lp [] ⟨.normal,[14,13],⟨[a,a],[],[]⟩⟩ [⟨(.exit 2),[13],⟨[a],[],[]⟩⟩] .no) .no)) (.n .no (.n .no (.n .no (.n (.jn [] [] [⟨.normal,[143],⟨[k],[],[]⟩⟩] .no .no) .no))))))))))) (.cons aK7 (.cons bq2 (.cons bW6 (.nil _)))) λ_=>by kernel_rfl
def bT1 :FSum:=⟨29,[ba],[],[⟨.ret,[],⟨[(.tup [(.agg [a,a]),k])],[],[]⟩⟩],by exact u36 nz⟩
theorem aR7 :Rt bT1:=rq (.no) (.cons aR5 (.cons bW3 (.cons bW5 (.nil _)))) λ_=>by kernel_rfl
def bR3 :FSum:=⟨166,[a],[],[⟨.ret,[],⟨[ah],[],[]⟩⟩],wQ⟩
theorem bW1 :Rt bR3:=rq (.no) (.nil _) λ_=>by kernel_rfl
def bC8 :FSum:=⟨116,[(.agg [a,a])],[],[q],by exact u2 qv⟩
theorem aI3 :Rt bC8:=rq (.no) (.cons bW1 (.nil _)) λ_=>by kernel_rfl
def bo5 :FSum:=⟨80,[j,j,j],[],[⟨.ret,[],⟨[(.full 0)],[],[b]⟩⟩],by exact u3 kZ⟩
theorem tu :Rt bo5:=rq ((.n .no (.n .no (.n (.n .no (.n (.lp [] ⟨.normal,[8,7],⟨[a,(.full 1)],[],[b]⟩⟩ [⟨(.exit 0),[7],⟨[(.full 1)],[],[b]⟩⟩] .no) .no)) (.n (.n .no (.n (.lp [] ⟨.normal,[9,7],⟨[a,(.full 2)],[],[b]⟩⟩ [⟨(.exit 2),[7],⟨[(.full 2)],[],[b]⟩⟩] .no) .no)) (.n (.n .no (.n (.lp [] ⟨.normal,[10,7],⟨[a,(.full 3)],[],[b]⟩⟩ [⟨(.exit 4),[7],⟨[(.full 3)],[],[b]⟩⟩] .no) .no)) .no)))))) (.nil _) λ_=>by kernel_rfl
def bC5 :FSum:=⟨78,[(.agg [a,l,a,l,a,j]),a,j],[],[⟨.ret,[],⟨[(.full 0)],[],[b]⟩⟩],by exact u8 mt⟩
theorem ab6 :Rt bC5:=rq (.no) (.cons tu (.nil _)) λ_=>by kernel_rfl
def bh9 :FSum:=⟨125,[aa],[],[p],by exact u2 qQ⟩
theorem bi9 :Rt bh9:=rq ((.n .no (.n (.n .no (.n (.lp [] ⟨.normal,[3],⟨[a],[],[]⟩⟩ [⟨.ret,[2],⟨[a],[],[]⟩⟩,⟨(.exit 0),[],⟨[],[],[]⟩⟩] .no) .no)) .no))) (.cons aQ8 (.nil _)) λ_=>by kernel_rfl
def bC2 :FSum:=⟨169,[l],[],[⟨.ret,[],⟨[(.tup [(.full 0),a])],[],[m]⟩⟩],uv⟩
theorem bF1 :Rt bC2:=rq ((.n .no (.n .no (.n .no (.n .no (.n (.n .no (.n (.lp [] ⟨.normal,[9,8],⟨[a,(.full 2)],[],[m]⟩⟩ [⟨(.exit 0),[8],⟨[(.full 2)],[],[m]⟩⟩] (.n .no (.n (.n (.n .no (.jn [] [] [⟨.normal,[10],⟨[a],[],[]⟩⟩] .no .no)) .no) .no))) .no)) .no)))))) (.cons ye (.cons uA (.cons aI2 (.cons tt (.nil _))))) λ_=>by kernel_rfl
def bQ1 :FSum:=⟨126,[l],[],[⟨.ret,[],⟨[(.full 0)],[],[(.arr Zb x)]⟩⟩],wK⟩
theorem bV3 :Rt bQ1:=rq ((.n .no (.n .no (.n .no (.n .no (.n (.n .no (.n (.lp [] ⟨.normal,[8,7],⟨[a,(.full 3)],[],[(.arr Zb x)]⟩⟩ [⟨(.exit 0),[7],⟨[(.full 3)],[],[(.arr Zb x)]⟩⟩] (.n .no (.n (.n (.jn [] [] [⟨(.exit 1),[8],⟨[a],[],[]⟩⟩,⟨.normal,[8],⟨[a],[],[]⟩⟩] .no .no) .no) .no))) .no)) .no)))))) (.cons uA (.cons bF1 (.nil _))) λ_=>by kernel_rfl
def bo2 (n:Nat):FSum:=⟨127,[l,(.leaf v),a,a],[],[⟨.ret,[],⟨[(.tup [l,a])],[],[]⟩⟩],λt=>(ij n) t.1 t.2.1 t.2.2.1 t.2.2.2⟩
theorem ae0 : ∀n,wv aB (bo2 n)
 |0=>an0 (λt=>rfl)
 |n+1=>rq ((.n .no (.n .no (.n .no (.n (.n .no (.n (.lp [] ⟨.normal,[12,11,10],⟨[a,a,(.full 1)],[],[(.arr Zb x)]⟩⟩ [⟨(.exit 0),[10,11],⟨[(.full 1),a],[],[(.arr Zb x)]⟩⟩] (.n .no (.n (.n (.n .no (.n .no (.n .no (.n (.n .no (.n (.lp [] ⟨.normal,[15,10,11],⟨[c,(.full 2),a],[],[(.arr Zb x)]⟩⟩ [⟨(.exit 2),[11,10],⟨[a,(.full 2)],[],[(.arr Zb x)]⟩⟩] .no) .no)) .no)))) .no) .no))) .no)) .no))))) (.cons (ae0 n) (.nil _)) λ_=>by kernel_rfl
def bQ0 :FSum:=⟨127,[l,(.leaf v),a,a],[],[⟨.ret,[],⟨[(.tup [l,a])],[],[]⟩⟩],by exact u4 ag4⟩
theorem bV2 :Rt bQ0:=(ae0 400)
def bo3 :FSum:=⟨76,[aa],[],[⟨.ret,[],⟨[(.tup [l,a])],[],[]⟩⟩],by exact u2 kf⟩
theorem pe :Rt bo3:=rq (.no) (.cons bi9 (.cons bV3 (.cons uA (.cons bV2 (.nil _))))) λ_=>by kernel_rfl
def bC3 :FSum:=⟨77,[a,j],[],[⟨.ret,[],⟨[(.full 0)],[],[b]⟩⟩],by exact u2 kP⟩
theorem uB :Rt bC3:=rq ((.n .no (.n .no (.n (.n .no (.n (.lp [] ⟨.normal,[6,5],⟨[a,(.full 1)],[],[b]⟩⟩ [⟨(.exit 0),[5],⟨[(.full 1)],[],[b]⟩⟩] (.n .no (.n (.n (.n .no (.jn [] [] [⟨.normal,[7],⟨[c],[],[]⟩⟩] .no .no)) .no) .no))) .no)) .no)))) (.nil _) λ_=>by kernel_rfl
def bC4 :FSum:=⟨264,[aa,j,j],[],[⟨.ret,[],⟨[(.tup [l,a])],[],[]⟩⟩],by exact u4 zZ⟩
theorem bF2 :Rt bC4:=rq (.no) (.cons pe (.nil _)) λ_=>by kernel_rfl
def bQ3 :FSum:=⟨265,[j],[],[⟨.ret,[],⟨[(.full 0)],[],[b]⟩⟩],nu⟩
theorem aR0 :Rt bQ3:=rq ((.n .no (.n .no (.n (.n .no (.n (.lp [] ⟨.normal,[4,3],⟨[a,(.full 1)],[],[b]⟩⟩ [⟨(.exit 0),[3],⟨[(.full 1)],[],[b]⟩⟩] .no) .no)) .no)))) (.nil _) λ_=>by kernel_rfl
def cf9 :FSum:=⟨170,[c],[],[⟨.ret,[],⟨[c],[],[]⟩⟩],rL⟩
theorem bd4 :Rt cf9:=rq ((.n .no (.n .no (.n (.n .no (.n (.lp [0] ⟨.normal,[4],⟨[a],[ao],[]⟩⟩ [⟨(.exit 0),[],⟨[],[ao],[]⟩⟩] .no) .no)) .no)))) (.cons ya (.cons yd (.nil _))) λ_=>by kernel_rfl
def bB8 :FSum:=⟨128,[ak,c,c],[],[⟨.ret,[],⟨[c],[],[]⟩⟩],by exact u7 qu⟩
theorem aI1 :Rt bB8:=rq (.no) (.cons xj (.cons bd4 (.cons ab5 (.nil _)))) λ_=>by kernel_rfl
def bo4 :FSum:=⟨229,[aa,j,j],[],[⟨.ret,[],⟨[(.tup [(.full 0),(.full 1),a,a])],[],[b,b]⟩⟩],by exact u4 sD⟩
theorem bq1 :Rt bo4:=rq ((.n .no (.n .no (.n .no (.n .no (.n .no (.n (.n .no (.n (.lp [1,2] ⟨.normal,[14],⟨[a],[b,b],[]⟩⟩ [⟨(.exit 0),[],⟨[],[b,b],[]⟩⟩] .no) .no)) .no))))))) (.cons bF2 (.cons aR0 (.cons aI1 (.nil _)))) λ_=>by kernel_rfl
def aW7 :FSum:=⟨266,[ak,c,c],[],[⟨.ret,[],⟨[(.tup [c,c])],[],[]⟩⟩],by exact u7 pu⟩
theorem aX2 :Rt aW7:=rq (.no) (.cons bd4 (.nil _)) λ_=>by kernel_rfl
def bQ4 :FSum:=⟨230,[aa,j,j,j],[],[⟨.ret,[],⟨[(.tup [(.full 0),(.full 1),a])],[],[b,b]⟩⟩],by exact u5 wL⟩
theorem bV5 :Rt bQ4:=rq ((.n .no (.n .no (.n .no (.n .no (.n .no (.n .no (.n .no (.n (.n .no (.n (.lp [1,2] ⟨.normal,[15],⟨[a],[b,b],[]⟩⟩ [⟨(.exit 0),[],⟨[],[b,b],[]⟩⟩] (.n .no (.n (.n (.n .no (.n .no (.n .no (.n .no (.n .no (.n .no (.jn [2] [] [⟨.normal,[],⟨[],[b],[]⟩⟩] .no .no))))))) .no) .no))) .no)) .no))))))))) (.cons pe (.cons aR0 (.cons aX2 (.cons tt (.cons ab5 (.cons xj (.nil _))))))) λ_=>by kernel_rfl
def bQ5 :FSum:=⟨168,[aa,j,j],[],[⟨.ret,[],⟨[(.tup [(.full 0),a])],[],[b]⟩⟩],by exact u4 sE⟩
theorem aR1 :Rt bQ5:=rq ((.n .no (.n .no (.n .no (.n .no (.n (.dr [0,1,2,3,5,6,1007,4,7,8,9,10,11,12,13,14,15,16,17]) .no)))))) (.cons pe (.cons uB (.cons bq1 (.cons bV5 (.nil _))))) λ_=>by kernel_rfl
def aX1 :FSum:=⟨124,[(.agg [a,l,a,l,a,j]),a,j,j],[],[⟨.ret,[],⟨[(.tup [j,j,a])],[],[]⟩⟩],by exact u9 pC⟩
theorem aX4 :Rt aX1:=rq (.no) (.cons ab6 (.cons aR1 (.nil _))) λ_=>by kernel_rfl
def cg5 :FSum:=⟨123,[j,j],[],[⟨.ret,[],⟨[(.full 0)],[],[b]⟩⟩],by exact u2 uQ⟩
theorem bd7 :Rt cg5:=rq ((.n .no (.n .no (.n (.n .no (.n (.lp [] ⟨.normal,[6,5],⟨[a,(.full 1)],[],[b]⟩⟩ [⟨(.exit 0),[5],⟨[(.full 1)],[],[b]⟩⟩] .no) .no)) .no)))) (.cons xj (.nil _)) λ_=>by kernel_rfl
def bS8 :FSum:=⟨75,[am,a,j],[],[⟨.ret,[],⟨[(.agg [a,j,j,a,l,a,l,a,a,a,l,a,l,a,j,a,a,a,a,a,a,a,j,(.leaf af),a,(.leaf aw),j,(.full 0),c,a,a,a,a,a])],[],[b]⟩⟩],by exact u36 kJ⟩
theorem aR6 :Rt bS8:=rq (.no) (.cons aX4 (.cons bd7 (.nil _))) λ_=>by kernel_rfl
def aW9 :FSum:=⟨79,[l,j],[],[⟨.ret,[],⟨[(.full 0)],[],[b]⟩⟩],by exact u2 mS⟩
theorem ae1 :Rt aW9:=rq ((.n .no (.n .no (.n (.n .no (.n (.lp [0] ⟨.normal,[6],⟨[a],[b],[]⟩⟩ [⟨(.exit 0),[],⟨[],[b],[]⟩⟩] .no) .no)) .no)))) (.cons uB (.cons aI1 (.nil _))) λ_=>by kernel_rfl
def bQ2 :FSum:=⟨167,[aa,j,a],[],[⟨.ret,[],⟨[(.tup [(.full 0),a])],[],[b]⟩⟩],by exact u4 ag5⟩
theorem bV4 :Rt bQ2:=rq ((.n .no (.n .no (.n .no (.n .no (.jn [] [] [⟨.normal,[2],⟨[a],[],[]⟩⟩] .no .no)))))) (.cons pe (.cons uB (.cons ae1 (.nil _)))) λ_=>by kernel_rfl
def cg0 :FSum:=⟨119,[aa,j],[],[⟨.ret,[],⟨[(.tup [(.full 0),a])],[],[b]⟩⟩],by exact u3 uP⟩
theorem bd5 :Rt cg0:=rq (.no) (.cons bV4 (.nil _)) λ_=>by kernel_rfl
def bQ7 :FSum:=⟨70,[(.agg [a,l,a,l,a,j]),a,j],[],[⟨.ret,[],⟨[(.tup [(.full 0),a])],[],[b]⟩⟩],by exact u8 nv⟩
theorem aR2 :Rt bQ7:=rq (.no) (.cons ab6 (.cons bd5 (.nil _))) λ_=>by kernel_rfl
def bR1 :FSum:=⟨118,[(.agg [(.leaf af),a])],[],[p],by exact u2 wP⟩
theorem bW0 :Rt bR1:=rq ((.n .no (.n .no (.n (.n .no (.n (.lp [] ⟨.normal,[4,3],⟨[a,a],[],[]⟩⟩ [⟨(.exit 0),[3],⟨[a],[],[]⟩⟩] .no) .no)) .no)))) (.nil _) λ_=>by kernel_rfl
def bS4 :FSum:=⟨69,[am],[],[p],by exact u34 il⟩
theorem ak2 :Rt bS4:=rq (.no) (.cons bW0 (.nil _)) λ_=>by kernel_rfl
def bQ6 :FSum:=⟨121,[(.agg [a,l,a,l,a,j]),j],[],[⟨.ret,[],⟨[(.tup [c,a])],[],[]⟩⟩],by exact u7 wM⟩
theorem bV6 :Rt bQ6:=rq (.no) (.cons tu (.cons bd5 (.nil _))) λ_=>by kernel_rfl
def aX0 :FSum:=⟨122,[(.agg [a,l,a,l,a,j]),j],[],[⟨.ret,[],⟨[(.tup [j,j,a])],[],[]⟩⟩],by exact u7 pB⟩
theorem aX3 :Rt aX0:=rq ((.n .no (.n .no (.n (.dr [0,1,2,3,4,1006,5,6,7,8,9,10,11,12]) .no)))) (.cons tu (.cons aR1 (.nil _))) λ_=>by kernel_rfl
def cg4 :FSum:=⟨74,[am,j],[],[⟨.ret,[],⟨[(.agg [a,j,j,a,l,a,l,a,a,a,l,a,l,a,j,a,a,a,a,a,a,a,j,(.leaf af),a,(.leaf aw),j,(.full 0),c,a,a,a,a,a])],[],[b]⟩⟩],by exact u35 lY⟩
theorem bd6 :Rt cg4:=rq (.no) (.cons bV6 (.cons aX3 (.cons bd7 (.nil _)))) λ_=>by kernel_rfl
def bD4 :FSum:=⟨66,[am,(.agg [a,a])],[],[⟨.ret,[],⟨[bi],[],[]⟩⟩],by exact u36 uz⟩
theorem bF9 :Rt bD4:=rq ((.n .no (.jn [0,1,2] [] [⟨.ret,[5],⟨[(.cint .i64 2)],[bd,(.cells 1 Zb [a,a]),bd],[]⟩⟩,⟨.normal,[],⟨[],[bd,(.cells 1 Zb [a,a]),bh],[]⟩⟩] .no .no))) (.cons aI3 (.cons aR6 (.cons aR2 (.cons ak2 (.cons yf (.cons bd6 (.nil _))))))) λ_=>by kernel_rfl
def cs6 :FSum:=⟨68,[(.agg [a,a,a,(.leaf v),a]),(.agg [a,a])],[],[⟨.ret,[],⟨[(.tup [(.agg [a,a,a,(.leaf v),a]),a])],[],[]⟩⟩],by exact u7 ag6⟩
theorem ct5 :Rt cs6:=rq ((.n .no (.n .no (.jn [] [] [⟨.normal,[6],⟨[k],[],[]⟩⟩] .no (.jn [0,1,2] [] [⟨.ret,[5],⟨[(.cint .i64 2)],[(.cells 1 Zb [a,a,a,(.leaf v),a]),(.cells 1 Zb [a,a]),(.cells 1 Zb [a,a,a,(.leaf v),a])],[]⟩⟩,⟨.normal,[],⟨[],[(.cells 1 Zb [a,a,a,(.leaf v),a]),(.cells 1 Zb [a,a]),(.cells 1 Zb [g,g,g,NS,g])],[]⟩⟩] .no (.n (.dr [0,1,2,3,5,6,4,7,8,9]) (.n .no (.jn [] [] [⟨.normal,[8],⟨[a],[],[]⟩⟩] .no (.n (.n .no (.n (.n .no (.n .no (.n .no (.n .no (.jn [] [] [⟨.normal,[115],⟨[k],[],[]⟩⟩] .no .no))))) .no)) .no))))))))) (.cons aI3 (.cons aR4 (.nil _))) λ_=>by kernel_rfl
def bR2 :FSum:=⟨120,[(.agg [(.leaf af),a]),a,(.agg [a,j])],[],[⟨.ret,[],⟨[(.agg [(.full 0),a])],[],[(.arr Zb aq)]⟩⟩],by exact u5 sG⟩
theorem aR3 :Rt bR2:=rq ((.n .no (.n .no (.n (.n .no (.n (.lp [0,1,2,3] ⟨.normal,[8],⟨[a],[(.cells 1 Zb [(.leaf af),a]),(.cells 1 Zb [a,j]),(.cells 1 Zb [NS,g]),(.cells 1 Zb [(.full 4),a])],[(.arr Zb aq)]⟩⟩ [⟨(.exit 0),[],⟨[],[(.cells 1 Zb [(.leaf af),a]),(.cells 1 Zb [a,j]),(.cells 1 Zb [NS,g]),(.cells 1 Zb [(.full 4),a])],[(.arr Zb aq)]⟩⟩] .no) .no)) .no)))) (.nil _) λ_=>by kernel_rfl
def bC6 :FSum:=⟨71,[(.agg [(.leaf af),a]),a,a,j],[],[⟨.ret,[],⟨[(.tup [(.agg [(.leaf af),a]),a])],[],[]⟩⟩],by exact u5 uw⟩
theorem bF3 :Rt bC6:=rq (.no) (.cons aR3 (.nil _)) λ_=>by kernel_rfl
def bi0 :FSum:=⟨72,[(.agg [(.leaf af),a]),a],[],[⟨.ret,[],⟨[(.tup [a,j,a])],[],[]⟩⟩],by exact u3 qS⟩
theorem bj0 :Rt bi0:=rq (.no) (.nil _) λ_=>by kernel_rfl
def bQ9 :FSum:=⟨73,[(.agg [(.leaf af),a]),a],[],[⟨.ret,[],⟨[(.tup [(.agg [(.leaf af),a]),a])],[],[]⟩⟩],by exact u3 wN⟩
theorem bV8 :Rt bQ9:=rq (.no) (.cons aR3 (.nil _)) λ_=>by kernel_rfl
def cs8 :FSum:=⟨30,[am,(.agg [a,a])],[],[⟨.ret,[],⟨[bi],[],[]⟩⟩],by exact u36 oW⟩
theorem ct6 :Rt cs8:=rq ((.n .no (.n .no (.n (.dr [0,1,2,3,4,5,6,7,8,9,10]) (.n .no (.n .no (.n .no (.n .no (.n .no (.jn [0,1,2,3,5,6] [] [⟨.normal,[10],⟨[a],[bd,(.cells 1 Zb [a,a]),bh,m,(.cells 1 Zb [a,a,a,(.full 4),g]),(.cells 1 Zb [a,a,a,(.leaf v),a])],[]⟩⟩] (.n .no (.n (.n .no (.n (.n .no (.n (.lp [0,1,2,3,5,6] ⟨.normal,[14],⟨[a],[bd,(.cells 1 Zb [a,a]),bh,m,(.cells 1 Zb [a,a,a,(.full 4),g]),(.cells 1 Zb [a,a,a,(.leaf v),a])],[]⟩⟩ [⟨(.exit 1),[],⟨[],[bd,(.cells 1 Zb [a,a]),bh,m,(.cells 1 Zb [a,a,a,(.full 4),g]),(.cells 1 Zb [a,a,a,(.leaf v),a])],[]⟩⟩] .no) .no)) .no)) .no)) .no)))))))))) (.cons bF9 (.cons aR5 (.cons aK7 (.cons ct5 (.cons yf (.cons ak2 (.cons aR2 (.cons bF3 (.cons bj0 (.cons bV8 (.cons bd6 (.cons aR6 (.nil _))))))))))))) λ_=>by kernel_rfl
def bT2 :FSum:=⟨9,[ba],[],[⟨.ret,[],⟨[(.tup [ba,(.agg [a,a]),k,a])],[],[]⟩⟩],by exact u36 pO⟩
theorem bX4 :Rt bT2:=rq (.no) (.cons aR7 (.cons ct6 (.nil _))) λ_=>by kernel_rfl
def bD8 :FSum:=⟨31,[ba],[],[q],by exact u36 oh⟩
theorem bG3 :Rt bD8:=rq (.no) (.cons aR7 (.nil _)) λ_=>by kernel_rfl
def bS5 :FSum:=⟨32,[am],[],[⟨.ret,[],⟨[bi],[],[]⟩⟩],by exact u34 pL⟩
theorem bX0 :Rt bS5:=rq (.no) (.nil _) λ_=>by kernel_rfl
def bT0 :FSum:=⟨10,[ba,k],[],[⟨.ret,[],⟨[(.tup [ba,a])],[],[]⟩⟩],by exact u37 pN⟩
theorem bX3 :Rt bT0:=rq (.no) (.cons bG3 (.cons bX0 (.nil _))) λ_=>by kernel_rfl
def bi2 :FSum:=⟨33,[am],[],[⟨.ret,[],⟨[(.agg [c,c,c,c,c,c,c,c,c,c,c,c,(.cint .u64 0),(.cint .u64 0),(.cint .u64 0),(.cint .u64 0)])],[],[]⟩⟩],by exact u34 lO⟩
theorem bj2 :Rt bi2:=rq (.no) (.cons ak2 (.nil _)) λ_=>by kernel_rfl
def bD6 :FSum:=⟨11,[ba],[],[⟨.ret,[],⟨[(.agg [c,c,c,c,c,c,c,c,c,c,c,c,c,c,(.cint .u64 0),(.cint .u64 0)])],[],[]⟩⟩],by exact u36 og⟩
theorem bG1 :Rt bD6:=rq (.no) (.cons bj2 (.nil _)) λ_=>by kernel_rfl
def bo7 :FSum:=⟨34,[y],[],[⟨.ret,[],⟨[(.tup [(.full 0),a])],[],[m]⟩⟩],by exact u9 mT⟩
theorem ax1 :Rt bo7:=rq ((.n .no (.n .no (.n .no (.n .no (.n .no (.n (.n .no (.n (.lp [] ⟨.normal,[8,7],⟨[a,(.full 4)],[],[m]⟩⟩ [⟨(.exit 0),[7],⟨[(.full 4)],[],[m]⟩⟩] .no) .no)) .no))))))) (.cons ak1 (.nil _)) λ_=>by kernel_rfl
def bC7 :FSum:=⟨35,[(.agg [(.leaf af),a])],[],[⟨.ret,[],⟨[(.full 0)],[],[b]⟩⟩],by exact u2 od⟩
theorem bF4 :Rt bC7:=rq ((.n .no (.n .no (.n (.n .no (.n (.lp [] ⟨.normal,[4,3],⟨[a,(.full 2)],[],[b]⟩⟩ [⟨(.exit 0),[3],⟨[(.full 2)],[],[b]⟩⟩] (.n .no (.n (.n (.n .no (.n .no (.n (.lp [] ⟨.normal,[5,3],⟨[a,(.full 5)],[],[b]⟩⟩ [⟨(.exit 2),[3],⟨[(.full 5)],[],[b]⟩⟩] (.n .no (.n (.n (.n .no (.jn [] [] [⟨.normal,[6],⟨[c],[],[]⟩⟩] .no .no)) .no) .no))) .no))) .no) .no))) .no)) .no)))) (.nil _) λ_=>by kernel_rfl
def bS7 :FSum:=⟨36,[am,a],[],[⟨.ret,[],⟨[(.full 0)],[],[b]⟩⟩],by exact u35 xc⟩
theorem bX1 :Rt bS7:=rq ((.n .no (.n .no (.n .no (.n .no (.n (.n .no (.n (.lp [] ⟨.normal,[9,8,7],⟨[a,(.full 4),(.full 5)],[],[b,b]⟩⟩ [⟨(.exit 0),[8,7],⟨[(.full 4),(.full 5)],[],[b,b]⟩⟩] .no) .no)) .no)))))) (.cons pe (.cons ab6 (.cons uB (.cons ae1 (.cons tu (.nil _)))))) λ_=>by kernel_rfl
def bD3 :FSum:=⟨12,[am],[],[⟨.ret,[],⟨[(.full 0)],[],[b]⟩⟩],by exact u34 oe⟩
theorem bF8 :Rt bD3:=rq ((.n .no (.n .no (.n .no (.n .no (.n .no (.n (.n .no (.n (.lp [2] ⟨.normal,[8],⟨[a],[b],[]⟩⟩ [⟨(.exit 0),[],⟨[],[b],[]⟩⟩] (.n .no (.n (.n (.n .no (.n (.lp [2] ⟨.normal,[9],⟨[a],[b],[]⟩⟩ [⟨(.exit 2),[],⟨[],[b],[]⟩⟩] .no) .no)) .no) .no))) .no)) (.n (.n .no (.n (.lp [2] ⟨.normal,[10],⟨[a],[b],[]⟩⟩ [⟨(.exit 4),[],⟨[],[b],[]⟩⟩] (.n .no (.n (.n (.n .no (.n .no (.n (.lp [2] ⟨.normal,[12],⟨[a],[b],[]⟩⟩ [⟨(.exit 6),[],⟨[],[b],[]⟩⟩] .no) .no))) .no) .no))) .no)) .no)))))))) (.cons ax1 (.cons bF4 (.cons bX1 (.nil _)))) λ_=>by kernel_rfl
def bS9 :FSum:=⟨37,[j],[],[⟨.ret,[],⟨[(.tup [j,ax,a])],[],[]⟩⟩],xd⟩
theorem bX2 :Rt bS9:=rq ((.n .no (.n .no (.n .no (.n .no (.n .no (.n .no (.n (.n .no (.n (.lp [1] ⟨.normal,[7],⟨[a],[bb],[]⟩⟩ [⟨(.exit 0),[],⟨[],[bb],[]⟩⟩] .no) .no)) .no)))))))) (.cons bd8 (.nil _)) λ_=>by kernel_rfl
def bS3 :FSum:=⟨38,[y,j,ax],[],[q],by exact u26 sJ⟩
theorem bW9 :Rt bS3:=rq ((.n .no (.n .no (.n .no (.jn [] [] [⟨.ret,[6],⟨[k],[],[]⟩⟩,⟨.normal,[],⟨[],[],[]⟩⟩] .no (.n .no (.jn [] [] [⟨.normal,[11],⟨[a],[],[]⟩⟩] .no (.n (.n .no (.n (.lp [] ⟨.normal,[12,11],⟨[a,a],[],[]⟩⟩ [⟨.ret,[6],⟨[k],[],[]⟩⟩,⟨(.exit 0),[11],⟨[a],[],[]⟩⟩] .no) .no)) .no)))))))) (.cons ak1 (.cons ax1 (.nil _))) λ_=>by kernel_rfl
def bD7 :FSum:=⟨13,[y,j],[],[p],by exact u10 mw⟩
theorem bG2 :Rt bD7:=rq ((.n .no (.n .no (.n .no (.n .no (.jn [] [] [⟨.ret,[4],⟨[(.cint .i64 3)],[],[]⟩⟩,⟨.normal,[],⟨[],[],[]⟩⟩] .no (.jn [] [] [⟨.ret,[4],⟨[(.cint .i64 3)],[],[]⟩⟩,⟨.normal,[],⟨[],[],[]⟩⟩] .no .no))))))) (.cons bX2 (.cons bW9 (.nil _))) λ_=>by kernel_rfl
def ah4 :FSum:=⟨14,[.nilp],[],[⟨.ret,[],⟨[(.tup [NS,(.cint .i64 1)])],[],[]⟩⟩],λ_=>sg⟩
theorem ai9 :Rt ah4:=rq (.no) (.nil _) λ_=>by kernel_rfl
def aJ6 :FSum:=⟨171,[h],[r],[p],by exact u3 kV⟩
theorem xY :Rt aJ6:=rq (.no) (.nil _) λ_=>by kernel_rfl
def aE7 :FSum:=⟨129,[h],[au,d,d,i,i,o,(.cells 1 Za [(.full 8),a]),r,d],[p],by exact u27 qf⟩
theorem aF7 :Rt aE7:=rq (.no) (.cons xY (.nil _)) λ_=>by kernel_rfl
def aJ7 :FSum:=⟨172,[h],[r],[p],by exact u3 kW⟩
theorem xZ :Rt aJ7:=rq (.no) (.nil _) λ_=>by kernel_rfl
def aE8 :FSum:=⟨130,[h],[au,d,d,i,i,o,(.cells 1 Za [(.full 8),a]),r,d],[p],by exact u27 qg⟩
theorem aF8 :Rt aE8:=rq (.no) (.cons xZ (.nil _)) λ_=>by kernel_rfl
def sY :FSum:=⟨81,[h],[au,d,d,i,i,o,(.cells 1 Za [(.full 8),a]),r,d],[⟨.ret,[],⟨[ax],[],[]⟩⟩],by exact u27 kG⟩
theorem ai5 :Rt sY:=rq ((.n .no (.n .no (.n .no (.n .no (.n (.n .no (.n (.lp [10] ⟨.normal,[50],⟨[a],[bb],[]⟩⟩ [⟨(.exit 0),[],⟨[],[bb],[]⟩⟩] .no) .no)) .no)))))) (.cons aF7 (.cons aF8 (.nil _))) λ_=>by kernel_rfl
def bA7 :FSum:=⟨40,[k],[],[⟨.ret,[],⟨[c],[],[]⟩⟩],kN⟩
theorem ab1 :Rt bA7:=rq (.no) (.nil _) λ_=>by kernel_rfl
def aE6 :FSum:=⟨131,[h],[(.cells 1 Za [(.full 1),a]),d],[⟨.ret,[],⟨[(.full 2)],[],[b]⟩⟩],by exact u2 kw⟩
theorem wo :Rt aE6:=rq (.no) (.cons dw (.nil _)) λ_=>by kernel_rfl
def au0 :FSum:=⟨83,[h],[au,d,d,i,i,o,(.cells 1 Za [(.full 8),a]),r,d],[⟨.ret,[],⟨[(.full 9)],[],[b]⟩⟩],by exact u27 lR⟩
theorem av6 :Rt au0:=rq (.no) (.cons wo (.nil _)) λ_=>by kernel_rfl
def aq3 :FSum:=⟨42,[h],[(.cells 1 Za [(.ptr 1 0),a,(.fn 59 [] []),k,k]),(.cells 1 Za [a,a,a,a,a,(.full 2),(.full 3),a,(.full 4),a,(.full 5),a,a,(.full 6),(.ptr 7 0), .nilp,(.ptr 8 0),a,a,a,a,a,a,a,c]),d,d,i,i,o,ab,r,d],[⟨.ret,[],⟨[(.full 10)],[],[b]⟩⟩],by exact u30 ou⟩
theorem as1 :Rt aq3:=dp (ins:=[⟨50,cx aB 50 ⟨[],[]⟩ .no⟩]) (at':= .no) (.cons av6 (.nil _)) (br.cons (cb (.nil _) (br.nil _)) (br.nil _)) λ_=>by kernel_rfl
def bO6 :FSum:=⟨82,[j],[],[⟨.ret,[],⟨[c],[],[]⟩⟩],wF⟩
theorem bU5 :Rt bO6:=rq ((.n .no (.n .no (.n (.n .no (.n (.lp [] ⟨.normal,[8,3],⟨[a,c],[],[]⟩⟩ [⟨(.exit 0),[3],⟨[c],[],[]⟩⟩] .no) .no)) .no)))) (.cons bq6 (.cons bq5 (.nil _))) λ_=>by kernel_rfl
def bm7 :FSum:=⟨41,[j,ax],[],[⟨.ret,[],⟨[(.full 0)],[],[b]⟩⟩],by exact u17 mM⟩
theorem xW :Rt bm7:=rq (.no) (.cons bU5 (.nil _)) λ_=>by kernel_rfl
def aa3 :FSum:=⟨14,[h],[(.cells 1 Za [(.ptr 1 0),a,(.fn 59 [] []),k,k]),(.cells 1 Za [a,a,a,a,a,(.full 2),(.full 3),a,(.full 4),a,(.full 5),a,a,(.full 6),(.ptr 7 0), .nilp,(.ptr 8 0),a,a,a,a,a,a,a,c]),d,d,i,i,o,ab,r,d],[⟨.ret,[],⟨[(.tup [(.full 10),g])],[],[b]⟩⟩],by exact u30 jP⟩
theorem aa8 :Rt aa3:=dp (ins:=[⟨39,cx aB 39 ⟨[sY],[⟨50,cx aB 50 ⟨[],[]⟩ .no⟩]⟩ .no⟩]) (at':= .no) (.cons ab1 (.cons as1 (.cons xW (.nil _)))) (br.cons (cb (.cons ai5 (.nil _)) (br.cons (cb (.nil _) (br.nil _)) (br.nil _))) (br.nil _)) λ_=>by kernel_rfl
def ap7 :FSum:=⟨129,[h],[ag,d,d,i,i,o,ab,ac,r,d],[p],by exact u30 ol⟩
theorem ar0 :Rt ap7:=rq (.no) (.cons xY (.nil _)) λ_=>by kernel_rfl
def ap8 :FSum:=⟨130,[h],[ag,d,d,i,i,o,ab,ac,r,d],[p],by exact u30 om⟩
theorem ar1 :Rt ap8:=rq (.no) (.cons xZ (.nil _)) λ_=>by kernel_rfl
def my :FSum:=⟨81,[h],[ag,d,d,i,i,o,ab,ac,r,d],[⟨.ret,[],⟨[ax],[],[]⟩⟩],by exact u30 iy⟩
theorem qC :Rt my:=rq ((.n .no (.n .no (.n .no (.n .no (.n (.n .no (.n (.lp [11] ⟨.normal,[50],⟨[a],[bb],[]⟩⟩ [⟨(.exit 0),[],⟨[],[bb],[]⟩⟩] .no) .no)) .no)))))) (.cons ar0 (.cons ar1 (.nil _))) λ_=>by kernel_rfl
def ah0 :FSum:=⟨83,[h],[ag,d,d,i,i,o,ab,ac,r,d],[⟨.ret,[],⟨[(.full 10)],[],[b]⟩⟩],by exact u30 jr⟩
theorem tq :Rt ah0:=rq (.no) (.cons wo (.nil _)) λ_=>by kernel_rfl
def ac7 :FSum:=⟨42,[h],[ar,ap,d,d,i,i,o,(.cells 1 Za [(.full 10),a]),al,r,d],[⟨.ret,[],⟨[(.full 11)],[],[b]⟩⟩],by exact u33 mK⟩
theorem ad5 :Rt ac7:=dp (ins:=[⟨50,cx aB 50 ⟨[],[]⟩ .no⟩]) (at':= .no) (.cons tq (.nil _)) (br.cons (cb (.nil _) (br.nil _)) (br.nil _)) λ_=>by kernel_rfl
def aa4 :FSum:=⟨14,[h],[ar,ap,d,d,i,i,o,(.cells 1 Za [(.full 10),a]),al,r,d],[⟨.ret,[],⟨[(.tup [(.full 11),g])],[],[b]⟩⟩],by exact u33 jQ⟩
theorem aa9 :Rt aa4:=dp (ins:=[⟨39,cx aB 39 ⟨[my],[⟨50,cx aB 50 ⟨[],[]⟩ .no⟩]⟩ .no⟩]) (at':= .no) (.cons ab1 (.cons ad5 (.cons xW (.nil _)))) (br.cons (cb (.cons qC (.nil _)) (br.cons (cb (.nil _) (br.nil _)) (br.nil _))) (br.nil _)) λ_=>by kernel_rfl
def ac8 :FSum:=⟨42,[h],[(.cells 1 Za [(.ptr 1 0),a,(.fn 58 [] []),k,k]),ap,d,d,i,i,o,(.cells 1 Za [(.full 10),a]),al,r,d],[⟨.ret,[],⟨[(.full 11)],[],[b]⟩⟩],by exact u33 mL⟩
theorem ad6 :Rt ac8:=dp (ins:=[⟨50,cx aB 50 ⟨[],[]⟩ .no⟩]) (at':= .no) (.cons tq (.nil _)) (br.cons (cb (.nil _) (br.nil _)) (br.nil _)) λ_=>by kernel_rfl
def aa5 :FSum:=⟨14,[h],[(.cells 1 Za [(.ptr 1 0),a,(.fn 58 [] []),k,k]),ap,d,d,i,i,o,(.cells 1 Za [(.full 10),a]),al,r,d],[⟨.ret,[],⟨[(.tup [(.full 11),g])],[],[b]⟩⟩],by exact u33 jR⟩
theorem ab0 :Rt aa5:=dp (ins:=[⟨39,cx aB 39 ⟨[my],[⟨50,cx aB 50 ⟨[],[]⟩ .no⟩]⟩ .no⟩]) (at':= .no) (.cons ab1 (.cons ad6 (.cons xW (.nil _)))) (br.cons (cb (.cons qC (.nil _)) (br.cons (cb (.nil _) (br.nil _)) (br.nil _))) (br.nil _)) λ_=>by kernel_rfl
def qm :FSum:=⟨3,[y,(.leaf (.list (.int .u8))),a,c],[],[q],by exact u12 fj⟩
theorem aG7 :Rt qm:=rq ((.n .no (.n (.jn [] [] [⟨.normal,[30],⟨[k],[],[]⟩⟩] .no .no) (.n .no (.n .no (.n (.n .no (.n (.lp [0,4] ⟨.normal,[13],⟨[a],[(.cells 1 Zb [a,j,j,a,l,a,l,a,a]),(.cells 1 Zb [a,j,j,a,l,a,l,a,a,a,l,a,l,a,j,a,a,a,a,a,a,a,j,(.leaf af),a,(.leaf aw),j,j,c,a,a,a,a,a,k,k])],[]⟩⟩ [⟨(.exit 0),[],⟨[],[(.cells 1 Zb [a,j,j,a,l,a,l,a,a]),(.cells 1 Zb [a,j,j,a,l,a,l,a,a,a,l,a,l,a,j,a,a,a,a,a,a,a,j,(.leaf af),a,(.leaf aw),j,j,c,a,a,a,a,a,k,k])],[]⟩⟩] .no) .no)) (.n .no (.jn [5] [] [⟨.normal,[],⟨[],[bb],[]⟩⟩] .no (.n .no (.n .no (.sz 19 .no (.sz 10018 .no .no)))))))))))) (.cons bE8 (.cons bU6 (.cons ci0 (.cons bG0 (.cons bE4 (.cons bX4 (.cons bX3 (.cons bG1 (.cons bF8 (.cons bG2 (.cons ai9 (.cons ab2 (.cons aa8 (.cons aa9 (.cons ab0 (.nil _)))))))))))))))) λ_=>by kernel_rfl
end
end Go.V
