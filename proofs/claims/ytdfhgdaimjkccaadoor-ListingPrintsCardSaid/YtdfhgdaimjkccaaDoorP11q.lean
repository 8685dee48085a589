/- A part of the proofs of this seat: what functions of the program answer on the abstract machine. -/
import Derived.Test.YtdfhgdaimjkccaaDoorD11q
import Derived.Test.YtdfhgdaimjkccaaDoorQ11q
import Derived.Test.YtdfhgdaimjkccaaDoorRows
import Derived.KernelRfl
namespace Go.V
set_option linter.unusedVariables false
set_option linter.unusedSimpArgs false
open Go.Ab Go.Proofs
set_option maxRecDepth 100000
abbrev zh0 : Sh := (.int .i64)
abbrev zh1 : Sh := (.pair zh0 (.pair zh0 (.pair .str (.int .u64))))
abbrev zh2 : Sh := (.pair zh0 (.pair zh0 (.pair zh0 (.int .u64))))
abbrev zh3 : Sh := (.pair zh0 zh2)
abbrev zk4 : Sk := (.leaf zh0)
def F_strconv_Itoa : FSum := ⟨13, [zk4], [], [⟨.ret, [], ⟨[(.leaf .str)], [], []⟩⟩], fun t => D_strconv_Itoa t⟩
theorem R_strconv_Itoa : Right Tryd.prog F_strconv_Itoa := Q_strconv_Itoa
def F_opcode_of : FSum := ⟨32, [zk4], [], [⟨.ret, [], ⟨[(.agg [(.leaf .bool), (.leaf .bool), (.leaf .bool), (.leaf .bool)])], [], []⟩⟩], fun t => D_opcode_of t⟩
theorem R_opcode_of : Right Tryd.prog F_opcode_of := right_eq (at' := (.n .no (.n (.n .no (.n (.jn [] [] [⟨.normal, [4], ⟨[(.leaf .bool)], [], []⟩⟩] .no (.n .no (.jn [] [] [⟨.normal, [9], ⟨[(.leaf .bool)], [], []⟩⟩] .no .no))) .no)) .no))) (.nil _) (fun t => by kernel_rfl)
def F_opcode_known : FSum := ⟨33, [zk4], [], [⟨.ret, [], ⟨[(.leaf .bool)], [], []⟩⟩], fun t => D_opcode_known t⟩
theorem R_opcode_known : Right Tryd.prog F_opcode_known := right_eq (at' := .no) (.nil _) (fun t => by kernel_rfl)
def F_opcode_register : FSum := ⟨34, [zk4, (.leaf .bool)], [], [⟨.ret, [], ⟨[(.leaf .bool)], [], []⟩⟩], fun t => D_opcode_register t.1 t.2⟩
theorem R_opcode_register : Right Tryd.prog F_opcode_register := right_eq (at' := .no) (.nil _) (fun t => by kernel_rfl)
def F_opcode_Right : FSum := ⟨17, [(.agg [zk4, zk4, zk4, zk4, (.leaf (.int .u64))])], [], [⟨.ret, [], ⟨[(.leaf .bool)], [], []⟩⟩], fun t => D_opcode_Right t.1 t.2.1 t.2.2.1 t.2.2.2.1 t.2.2.2.2⟩
theorem R_opcode_Right : Right Tryd.prog F_opcode_Right := right_eq (at' := .no) (.cons R_opcode_of (.cons R_opcode_known (.cons R_opcode_register (.nil _)))) (fun t => by kernel_rfl)
def F_listing_reg : FSum := ⟨18, [zk4], [], [⟨.ret, [], ⟨[(.leaf .str)], [], []⟩⟩], fun t => D_listing_reg t⟩
theorem R_listing_reg : Right Tryd.prog F_listing_reg := right_eq (at' := .no) (.cons R_strconv_Itoa (.nil _)) (fun t => by kernel_rfl)
def F_internal_strconv_small : FSum := ⟨61, [zk4], [], [⟨.ret, [], ⟨[(.leaf .str)], [], []⟩⟩], fun t => D_internal_strconv_small t⟩
theorem R_internal_strconv_small : Right Tryd.prog F_internal_strconv_small := right_eq (at' := .no) (.nil _) (fun t => by kernel_rfl)
def F_internal_strconv_numDigits : FSum := ⟨62, [(.leaf (.int .u64))], [], [⟨.ret, [], ⟨[zk4], [], []⟩⟩], fun t => D_internal_strconv_numDigits t⟩
theorem R_internal_strconv_numDigits : Right Tryd.prog F_internal_strconv_numDigits := Q_internal_strconv_numDigits
def F_signs_Text : FSum := ⟨19, [(.leaf (.int .u64))], [], [⟨.ret, [], ⟨[(.leaf .str)], [], []⟩⟩], fun t => D_signs_Text t⟩
theorem R_signs_Text : Right Tryd.prog F_signs_Text := right_eqI (ins := [⟨35, inlRun Tryd.prog 35 ⟨[], [⟨54, inlRun Tryd.prog 54 ⟨[F_internal_strconv_small, F_internal_strconv_numDigits], [⟨63, inlRun Tryd.prog 63 ⟨[], []⟩ (.n .no (.n (.n (.lp [0] ⟨.normal, [4, 1], ⟨[zk4, (.leaf (.int .u64))], [(.arr false (.int .u8))], []⟩⟩ [⟨(.exit 0), [1, 4], ⟨[(.leaf (.int .u64)), zk4], [(.arr false (.int .u8))], []⟩⟩] .no) .no) (.n .no (.jn [0] [] [⟨.normal, [4, 12], ⟨[zk4, (.leaf (.int .u32))], [(.arr false (.int .u8))], []⟩⟩] .no .no))))⟩]⟩ .no⟩]⟩ .no⟩]) (at' := .no) (.nil _) (AllRightI.cons (inl_right (.nil _) (AllRightI.cons (inl_right (.cons R_internal_strconv_small (.cons R_internal_strconv_numDigits (.nil _))) (AllRightI.cons (inl_right (.nil _) (AllRightI.nil _)) (AllRightI.nil _))) (AllRightI.nil _))) (AllRightI.nil _)) (fun t => by kernel_rfl)
def F_listing_Line : FSum := ⟨8, [(.agg [zk4, zk4, zk4, zk4, (.leaf (.int .u64))])], [], [⟨.ret, [], ⟨[(.tup [(.leaf .str), zk4])], [], []⟩⟩], fun t => D_listing_Line t.1 t.2.1 t.2.2.1 t.2.2.2.1 t.2.2.2.2⟩
theorem R_listing_Line : Right Tryd.prog F_listing_Line := right_eq (at' := .no) (.cons R_opcode_Right (.cons R_listing_reg (.cons R_signs_Text (.nil _)))) (fun t => by kernel_rfl)
def F_strings_Repeat : FSum := ⟨14, [(.leaf .str), zk4], [], [⟨.ret, [], ⟨[(.leaf .str)], [], []⟩⟩], fun t => D_strings_Repeat t.1 t.2⟩
theorem R_strings_Repeat : Right Tryd.prog F_strings_Repeat := Q_strings_Repeat
def F_listing_Print : FSum := ⟨6, [(.agg [zk4, (.leaf (.list zh3))])], [], [⟨.ret, [], ⟨[(.tup [(.leaf .str), zk4])], [], []⟩⟩], fun t => D_listing_Print t.1 t.2⟩
theorem R_listing_Print : Right Tryd.prog F_listing_Print := right_eqI (ins := [bldW 12, bldS 15]) (at' := (.n .no (.n .no (.n .no (.n .no (.n .no (.n (.n .no (.n (.lp [1] ⟨.normal, [27, 5], ⟨[zk4, zk4], [(.cells 1 false [(.leaf .str)])], []⟩⟩ [⟨.ret, [2, 3], ⟨[(.leaf .str), zk4], [(.cells 1 false [(.leaf .str)])], []⟩⟩, ⟨(.exit 0), [], ⟨[], [(.cells 1 false [(.leaf .str)])], []⟩⟩] (.n .no (.n .no (.n (.n (.n .no (.n .no (.n .no (.jn [] [] [⟨.normal, [5], ⟨[zk4], [], []⟩⟩] .no .no)))) .no) .no)))) .no)) .no))))))) (.cons R_strconv_Itoa (.cons R_listing_Line (.cons R_strings_Repeat (.nil _)))) (AllRightI.cons (bldW_right Q_bld) (AllRightI.cons (bldS_right Q_bld) (AllRightI.nil _))) (fun t => by kernel_rfl)
def F_signs_Lines : FSum := ⟨22, [(.leaf .str)], [], [⟨.ret, [], ⟨[(.full 0)], [], [(.arr false .str)]⟩⟩], fun t => D_signs_Lines t⟩
theorem R_signs_Lines : Right Tryd.prog F_signs_Lines := right_eq (at' := (.n .no (.n .no (.n .no (.n (.n .no (.n (.lp [0] ⟨.normal, [3, 4], ⟨[(.full 1), zk4], [(.cells 1 false [zk4])], [(.arr false .str)]⟩⟩ [⟨(.exit 0), [4, 3], ⟨[zk4, (.full 1)], [(.cells 1 false [zk4])], [(.arr false .str)]⟩⟩] .no) .no)) .no))))) (.nil _) (fun t => by kernel_rfl)
def F_signs_white : FSum := ⟨37, [(.leaf (.int .i32))], [], [⟨.ret, [], ⟨[(.leaf .bool)], [], []⟩⟩], fun t => D_signs_white t⟩
theorem R_signs_white : Right Tryd.prog F_signs_white := right_eq (at' := .no) (.nil _) (fun t => by kernel_rfl)
def F_signs_letter : FSum := ⟨38, [(.leaf (.int .i32))], [], [⟨.ret, [], ⟨[(.leaf .bool)], [], []⟩⟩], fun t => D_signs_letter t⟩
theorem R_signs_letter : Right Tryd.prog F_signs_letter := right_eq (at' := .no) (.nil _) (fun t => by kernel_rfl)
def F_signs_digit : FSum := ⟨40, [(.leaf (.int .i32))], [], [⟨.ret, [], ⟨[zk4], [], []⟩⟩], fun t => D_signs_digit t⟩
theorem R_signs_digit : Right Tryd.prog F_signs_digit := right_eq (at' := (.n .no (.n (.n (.jn [] [] [⟨.normal, [3], ⟨[(.leaf .bool)], [], []⟩⟩] .no .no) .no) .no))) (.nil _) (fun t => by kernel_rfl)
def F_signs_mark : FSum := ⟨42, [(.leaf (.int .i32))], [], [⟨.ret, [], ⟨[(.leaf (.int .i32))], [], []⟩⟩], fun t => D_signs_mark t⟩
theorem R_signs_mark : Right Tryd.prog F_signs_mark := right_eq (at' := (.n .no (.n (.n .no (.n (.jn [] [] [⟨.normal, [4], ⟨[(.leaf .bool)], [], []⟩⟩] .no .no) .no)) .no))) (.nil _) (fun t => by kernel_rfl)
def F_signs_Signs : FSum := ⟨23, [(.leaf .str)], [], [⟨.ret, [], ⟨[(.tup [(.full 0), zk4, zk4])], [], [(.arr false zh1)]⟩⟩], fun t => D_signs_Signs t⟩
theorem R_signs_Signs : Right Tryd.prog F_signs_Signs := right_eqI (ins := [⟨39, inlRun Tryd.prog 39 ⟨[], []⟩ .no⟩, ⟨41, inlRun Tryd.prog 41 ⟨[F_signs_Text], [⟨39, inlRun Tryd.prog 39 ⟨[], []⟩ .no⟩]⟩ .no⟩]) (at' := (.n .no (.n .no (.n (.n .no (.n (.lp [0, 1] ⟨.normal, [], ⟨[], [(.cells 1 false [(.full 2), zk4]), (.cells 1 false [zk4])], [(.arr false zh1)]⟩⟩ [⟨.ret, [2, 3, 4], ⟨[.nils, zk4, zk4], [(.cells 1 false [(.full 2), zk4]), (.cells 1 false [zk4])], [(.arr false zh1)]⟩⟩, ⟨.ret, [2, 3, 4], ⟨[(.full 2), (.cint .i64 0), (.cint .i64 0)], [(.cells 1 false [(.full 2), zk4]), (.cells 1 false [zk4])], [(.arr false zh1)]⟩⟩, ⟨(.exit 0), [], ⟨[], [(.cells 1 false [(.full 2), zk4]), (.cells 1 false [zk4])], [(.arr false zh1)]⟩⟩] .no) .no)) .no)))) (.cons R_signs_white (.cons R_signs_letter (.cons R_signs_digit (.cons R_signs_mark (.nil _))))) (AllRightI.cons (inl_right (.nil _) (AllRightI.nil _)) (AllRightI.cons (inl_right (.cons R_signs_Text (.nil _)) (AllRightI.cons (inl_right (.nil _) (AllRightI.nil _)) (AllRightI.nil _))) (AllRightI.nil _))) (fun t => by kernel_rfl)
def F_listing_numbers : FSum := ⟨43, [(.leaf (.list zh1))], [], [⟨.ret, [], ⟨[(.full 0)], [], [(.arr false (.int .u64))]⟩⟩], fun t => D_listing_numbers t⟩
theorem R_listing_numbers : Right Tryd.prog F_listing_numbers := right_eq (at' := (.n .no (.n .no (.n (.n .no (.n (.lp [] ⟨.normal, [8, 3], ⟨[zk4, (.full 0)], [], [(.arr false (.int .u64))]⟩⟩ [⟨(.exit 0), [3], ⟨[(.full 0)], [], [(.arr false (.int .u64))]⟩⟩] .no) .no)) .no)))) (.nil _) (fun t => by kernel_rfl)
def F_listing_shape : FSum := ⟨44, [(.leaf (.list zh1))], [], [⟨.ret, [], ⟨[(.leaf .str)], [], []⟩⟩], fun t => D_listing_shape t⟩
theorem R_listing_shape : Right Tryd.prog F_listing_shape := right_eq (at' := (.n .no (.n .no (.n (.n .no (.n (.lp [] ⟨.normal, [4, 3], ⟨[zk4, (.full 0)], [], [(.arr false (.int .i32))]⟩⟩ [⟨(.exit 0), [3], ⟨[(.full 0)], [], [(.arr false (.int .i32))]⟩⟩] (.n .no (.n (.n (.n .no (.n (.jn [] [] [⟨.normal, [21], ⟨[(.leaf .bool)], [], []⟩⟩] .no .no) .no)) .no) .no))) .no)) .no)))) (.nil _) (fun t => by kernel_rfl)
def F_listing_small : FSum := ⟨45, [(.leaf (.list (.int .u64)))], [], [⟨.ret, [], ⟨[(.leaf .bool)], [], []⟩⟩], fun t => D_listing_small t⟩
theorem R_listing_small : Right Tryd.prog F_listing_small := right_eq (at' := (.n .no (.n (.n .no (.n (.lp [] ⟨.normal, [7], ⟨[zk4], [], []⟩⟩ [⟨.ret, [2], ⟨[(.leaf .bool)], [], []⟩⟩, ⟨(.exit 0), [], ⟨[], [], []⟩⟩] .no) .no)) .no))) (.nil _) (fun t => by kernel_rfl)
def F_listing_head : FSum := ⟨24, [(.leaf (.list zh1))], [], [⟨.ret, [], ⟨[(.tup [zk4, zk4])], [], []⟩⟩], fun t => D_listing_head t⟩
theorem R_listing_head : Right Tryd.prog F_listing_head := right_eq (at' := (.n .no (.n .no (.n (.n (.jn [] [] [⟨.normal, [7], ⟨[(.leaf .bool)], [], []⟩⟩] .no .no) .no) .no)))) (.cons R_listing_numbers (.cons R_listing_shape (.cons R_listing_small (.nil _)))) (fun t => by kernel_rfl)
def F_opcode_names : FSum := ⟨60, [], [], [⟨.ret, [], ⟨[(.agg [(.leaf .str), (.leaf .str), (.leaf .str), (.leaf .str), (.leaf .str), (.leaf .str), (.leaf .str), (.leaf .str)])], [], []⟩⟩], fun t => D_opcode_names⟩
theorem R_opcode_names : Right Tryd.prog F_opcode_names := right_eq (at' := .no) (.nil _) (fun t => by kernel_rfl)
def F_opcode_Name : FSum := ⟨47, [zk4], [], [⟨.ret, [], ⟨[(.leaf .str)], [], []⟩⟩], fun t => D_opcode_Name t⟩
theorem R_opcode_Name : Right Tryd.prog F_opcode_Name := right_eq (at' := .no) (.cons R_opcode_known (.cons R_opcode_names (.nil _))) (fun t => by kernel_rfl)
def F_listing_forms_3 : FSum := ⟨59, [(.leaf (.list (.int .u64)))], [], [⟨.ret, [], ⟨[(.agg [(.cint .i64 0), (.cint .i64 0), (.cint .i64 0), (.cint .i64 0), (.cint .u64 0)])], [], []⟩⟩], fun t => D_listing_forms_3 t⟩
theorem R_listing_forms_3 : Right Tryd.prog F_listing_forms_3 := right_eq (at' := .no) (.nil _) (fun t => by kernel_rfl)
def F_listing_forms_2 : FSum := ⟨58, [(.leaf (.list (.int .u64)))], [], [⟨.ret, [], ⟨[(.agg [(.cint .i64 7), (.cint .i64 0), (.cint .i64 0), (.cint .i64 0), (.leaf (.int .u64))])], [], []⟩⟩], fun t => D_listing_forms_2 t⟩
theorem R_listing_forms_2 : Right Tryd.prog F_listing_forms_2 := right_eq (at' := .no) (.nil _) (fun t => by kernel_rfl)
def F_listing_forms_1 : FSum := ⟨57, [(.leaf (.list (.int .u64)))], [], [⟨.ret, [], ⟨[(.agg [(.cint .i64 5), zk4, (.cint .i64 0), (.cint .i64 0), (.leaf (.int .u64))])], [], []⟩⟩], fun t => D_listing_forms_1 t⟩
theorem R_listing_forms_1 : Right Tryd.prog F_listing_forms_1 := right_eq (at' := .no) (.nil _) (fun t => by kernel_rfl)
def F_listing_two_1 : FSum := ⟨67, [(.leaf (.list (.int .u64))), (.ptr 0 0)], [(.cells 1 true [zk4])], [⟨.ret, [], ⟨[(.agg [zk4, zk4, zk4, (.cint .i64 0), (.cint .u64 0)])], [], []⟩⟩], fun t => D_listing_two_1 t.1 t.2⟩
theorem R_listing_two_1 : Right Tryd.prog F_listing_two_1 := right_eq (at' := .no) (.nil _) (fun t => by kernel_rfl)
def F_listing_three_1 : FSum := ⟨66, [(.leaf (.list (.int .u64))), (.ptr 0 0)], [(.cells 1 true [zk4])], [⟨.ret, [], ⟨[(.agg [zk4, zk4, zk4, zk4, (.cint .u64 0)])], [], []⟩⟩], fun t => D_listing_three_1 t.1 t.2⟩
theorem R_listing_three_1 : Right Tryd.prog F_listing_three_1 := right_eq (at' := .no) (.nil _) (fun t => by kernel_rfl)
def F_listing_operation : FSum := ⟨25, [(.leaf (.list zh1))], [], [⟨.ret, [], ⟨[(.tup [(.agg [zk4, zk4, zk4, zk4, (.leaf (.int .u64))]), zk4])], [], []⟩⟩], fun t => D_listing_operation t⟩
theorem R_listing_operation : Right Tryd.prog F_listing_operation := right_eqI (ins := [⟨46, inlRun Tryd.prog 46 ⟨[], [⟨55, inlRun Tryd.prog 55 ⟨[], []⟩ .no⟩, ⟨56, inlRun Tryd.prog 56 ⟨[], []⟩ .no⟩]⟩ .no⟩]) (at' := (.n .no (.n .no (.n (.n .no (.n (.n .no (.n .no (.n .no (.n .no (.n .no (.n .no (.n .no (.n .no (.n .no .no))))))))) .no)) .no)))) (.cons R_listing_shape (.cons R_listing_numbers (.cons R_opcode_Name (.cons R_listing_small (.cons R_listing_forms_3 (.cons R_listing_forms_2 (.cons R_listing_forms_1 (.cons R_listing_two_1 (.cons R_listing_three_1 (.nil _)))))))))) (AllRightI.cons (inl_right (.nil _) (AllRightI.cons (inl_right (.nil _) (AllRightI.nil _)) (AllRightI.cons (inl_right (.nil _) (AllRightI.nil _)) (AllRightI.nil _)))) (AllRightI.nil _)) (fun t => by kernel_rfl)
def F_listing_Parse : FSum := ⟨10, [(.leaf .str)], [], [⟨.ret, [], ⟨[(.tup [(.agg [zk4, (.full 0)]), zk4, zk4])], [], [(.arr false zh3)]⟩⟩], fun t => D_listing_Parse t⟩
theorem R_listing_Parse : Right Tryd.prog F_listing_Parse := right_eq (at' := (.n .no (.n .no (.n .no (.n .no (.n .no (.n (.n .no (.n (.lp [0] ⟨.normal, [21, 5], ⟨[zk4, (.leaf .bool)], [(.cells 1 false [zk4, (.full 2)])], [(.arr false zh3)]⟩⟩ [⟨.ret, [3, 4], ⟨[zk4, zk4], [(.cells 1 false [(.cint .i64 0), .nils])], []⟩⟩, ⟨(.exit 0), [5], ⟨[(.leaf .bool)], [(.cells 1 false [zk4, (.full 2)])], [(.arr false zh3)]⟩⟩] .no) .no)) .no))))))) (.cons R_signs_Lines (.cons R_signs_Signs (.cons R_listing_head (.cons R_listing_operation (.nil _))))) (fun t => by kernel_rfl)
def F_ref08_Ops : FSum := ⟨11, [(.leaf (.list zh3)), (.leaf (.list zh3))], [], [⟨.ret, [], ⟨[(.leaf .bool)], [], []⟩⟩], fun t => D_ref08_Ops t.1 t.2⟩
theorem R_ref08_Ops : Right Tryd.prog F_ref08_Ops := right_eq (at' := (.n .no (.n .no (.n (.n .no (.n (.lp [] ⟨.normal, [5], ⟨[zk4], [], []⟩⟩ [⟨.ret, [4], ⟨[(.leaf .bool)], [], []⟩⟩, ⟨(.exit 0), [], ⟨[], [], []⟩⟩] .no) .no)) .no)))) (.nil _) (fun t => by kernel_rfl)
def F_law11_goes : FSum := ⟨5, [], [], [⟨.ret, [], ⟨[(.leaf .bool)], [], []⟩⟩], fun t => D_law11_goes⟩
theorem R_law11_goes : Right Tryd.prog F_law11_goes := right_eq (at' := .no) (.cons R_listing_Print (.cons R_listing_Parse (.cons R_ref08_Ops (.nil _)))) (fun t => by kernel_rfl)
def F_ref04_Text : FSum := ⟨16, [(.leaf (.int .u64))], [], [⟨.ret, [], ⟨[(.leaf .str)], [], []⟩⟩], fun t => D_ref04_Text t⟩
theorem R_ref04_Text : Right Tryd.prog F_ref04_Text := right_eq (at' := (.n .no (.n .no (.n .no (.n (.n (.lp [] ⟨.normal, [0, 4], ⟨[(.leaf (.int .u64)), (.leaf .str)], [], []⟩⟩ [⟨(.exit 0), [0, 4], ⟨[(.leaf (.int .u64)), (.leaf .str)], [], []⟩⟩] .no) .no) .no))))) (.nil _) (fun t => by kernel_rfl)
def F_ref07_Asks : FSum := ⟨36, [zk4], [], [⟨.ret, [], ⟨[(.agg [(.leaf .bool), (.leaf .bool), (.leaf .bool), (.leaf .bool)])], [], []⟩⟩], fun t => D_ref07_Asks t⟩
theorem R_ref07_Asks : Right Tryd.prog F_ref07_Asks := right_eq (at' := (.n .no (.jn [0] [] [⟨.ret, [], ⟨[], [(.cells 1 false [(.leaf .bool), (.leaf .bool), (.leaf .bool), (.leaf .bool)])], []⟩⟩, ⟨.normal, [], ⟨[], [(.cells 1 false [(.leaf .bool), (.leaf .bool), (.leaf .bool), (.leaf .bool)])], []⟩⟩] .no .no))) (.nil _) (fun t => by kernel_rfl)
def F_ref07_Right : FSum := ⟨20, [(.agg [zk4, zk4, zk4, zk4, (.leaf (.int .u64))])], [], [⟨.ret, [], ⟨[(.leaf .bool)], [], []⟩⟩], fun t => D_ref07_Right t.1 t.2.1 t.2.2.1 t.2.2.2.1 t.2.2.2.2⟩
theorem R_ref07_Right : Right Tryd.prog F_ref07_Right := right_eq (at' := (.n .no (.n .no (.n .no (.n .no (.n (.n .no (.n (.lp [] ⟨.normal, [5], ⟨[zk4], [], []⟩⟩ [⟨.ret, [2], ⟨[(.leaf .bool)], [], []⟩⟩, ⟨(.exit 0), [], ⟨[], [], []⟩⟩] .no) .no)) .no)))))) (.cons R_ref07_Asks (.nil _)) (fun t => by kernel_rfl)
def F_ref11_reg : FSum := ⟨21, [zk4], [], [⟨.ret, [], ⟨[(.leaf .str)], [], []⟩⟩], fun t => D_ref11_reg t⟩
theorem R_ref11_reg : Right Tryd.prog F_ref11_reg := right_eq (at' := .no) (.cons R_ref04_Text (.nil _)) (fun t => by kernel_rfl)
def F_ref11_Line : FSum := ⟨9, [(.agg [zk4, zk4, zk4, zk4, (.leaf (.int .u64))])], [], [⟨.ret, [], ⟨[(.tup [(.leaf .str), zk4])], [], []⟩⟩], fun t => D_ref11_Line t.1 t.2.1 t.2.2.1 t.2.2.2.1 t.2.2.2.2⟩
theorem R_ref11_Line : Right Tryd.prog F_ref11_Line := right_eq (at' := (.n .no (.n .no (.n .no (.n .no (.n .no (.n .no (.n .no (.n .no (.n .no (.n (.dr [0, 2, 3, 7, 8, 32001, 9, 1, 4, 5, 6, 10, 11, 12]) .no))))))))))) (.cons R_ref07_Right (.cons R_ref04_Text (.cons R_ref11_reg (.nil _)))) (fun t => by kernel_rfl)
def F_ref11_Print : FSum := ⟨7, [(.agg [zk4, (.leaf (.list zh3))])], [], [⟨.ret, [], ⟨[(.tup [(.leaf .str), zk4])], [], []⟩⟩], fun t => D_ref11_Print t.1 t.2⟩
theorem R_ref11_Print : Right Tryd.prog F_ref11_Print := right_eq (at' := (.n .no (.n .no (.n .no (.n .no (.n (.n .no (.n (.lp [] ⟨.normal, [6, 5, 4], ⟨[zk4, (.leaf .str), (.leaf .str)], [], []⟩⟩ [⟨.ret, [2, 3], ⟨[(.leaf .str), zk4], [], []⟩⟩, ⟨(.exit 0), [4], ⟨[(.leaf .str)], [], []⟩⟩] (.n .no (.n (.n (.n .no (.n .no (.jn [] [] [⟨.normal, [5], ⟨[(.leaf .str)], [], []⟩⟩] .no .no))) .no) .no))) .no)) .no)))))) (.cons R_ref04_Text (.cons R_ref11_Line (.nil _))) (fun t => by kernel_rfl)
def F_law11_ListingPrints : FSum := ⟨3, [(.agg [zk4, (.leaf (.list zh3))]), (.agg [zk4, zk4, zk4, zk4, (.leaf (.int .u64))])], [], [⟨.ret, [], ⟨[(.leaf .bool)], [], []⟩⟩], fun t => D_law11_ListingPrints t.1 t.2.1 t.2.2.1 t.2.2.2.1 t.2.2.2.2.1 t.2.2.2.2.2.1 t.2.2.2.2.2.2⟩
theorem R_law11_ListingPrints : Right Tryd.prog F_law11_ListingPrints := right_eq (at' := .no) (.cons R_law11_goes (.cons R_listing_Print (.cons R_ref11_Print (.cons R_listing_Line (.cons R_ref11_Line (.nil _)))))) (fun t => by kernel_rfl)
end Go.V
