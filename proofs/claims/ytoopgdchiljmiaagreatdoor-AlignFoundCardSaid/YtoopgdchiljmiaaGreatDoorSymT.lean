/- The types that this seat's code uses. -/
import Derived.Test.YtoopgdchiljmiaaGreatDoorChecked
import Derived.Test.YtoopgdchiljmiaaGreatDoorSB
set_option linter.unusedVariables false
set_option linter.unusedSimpArgs false
namespace Go.Proofs.YtoopgdchiljmiaaGreatDoor
open Go.RowKit Go.Sym

def tys : List (Nat × TyI) := [
  (3, ⟨.int .i64, 1, 8, .int .i64 0⟩),
  (25, ⟨.struct #[⟨ "Marks", 22, 0, false, "", "", 0⟩, ⟨ "Sights", 23, 1, false, "", "", 24⟩], 2, 48, .agg #[.slice none 0 0, .slice none 0 0]⟩),
  (69, ⟨.struct #[⟨ "Name", 9, 0, false, "", "", 0⟩, ⟨ "First", 3, 1, false, "", "", 16⟩, ⟨ "Samples", 66, 2, false, "", "", 24⟩, ⟨ "Holes", 67, 3, false, "", "", 48⟩], 4, 72, .agg #[.string ⟨#[]⟩, .int .i64 0, .slice none 0 0, .slice none 0 0]⟩),
  (38, ⟨.struct #[⟨ "Marks", 35, 0, false, "", "", 0⟩, ⟨ "Sights", 36, 1, false, "", "", 24⟩], 2, 48, .agg #[.slice none 0 0, .slice none 0 0]⟩),
  (45, ⟨.slice 3, 1, 24, .slice none 0 0⟩),
  (104, ⟨.struct #[⟨ "Sight", 3, 0, false, "", "", 0⟩, ⟨ "Mark", 3, 1, false, "", "", 8⟩], 2, 16, .agg #[.int .i64 0, .int .i64 0]⟩),
  (72, ⟨.struct #[⟨ "Name", 9, 0, false, "", "", 0⟩, ⟨ "First", 3, 1, false, "", "", 16⟩, ⟨ "Samples", 66, 2, false, "", "", 24⟩, ⟨ "Holes", 67, 3, false, "", "", 48⟩], 4, 72, .agg #[.string ⟨#[]⟩, .int .i64 0, .slice none 0 0, .slice none 0 0]⟩),
  (9, ⟨.string, 1, 16, .string ⟨#[]⟩⟩),
  (66, ⟨.slice 134, 1, 24, .slice none 0 0⟩),
  (105, ⟨.struct #[⟨ "Sight", 3, 0, false, "", "", 0⟩, ⟨ "Mark", 3, 1, false, "", "", 8⟩], 2, 16, .agg #[.int .i64 0, .int .i64 0]⟩),
  (32, ⟨.int .i64, 1, 8, .int .i64 0⟩),
  (46, ⟨.slice 105, 1, 24, .slice none 0 0⟩),
  (23, ⟨.slice 117, 1, 24, .slice none 0 0⟩),
  (86, ⟨.struct #[⟨ "Num", 3, 0, false, "", "", 0⟩, ⟨ "Den", 3, 1, false, "", "", 8⟩], 2, 16, .agg #[.int .i64 0, .int .i64 0]⟩),
  (22, ⟨.slice 115, 1, 24, .slice none 0 0⟩),
  (176, ⟨.struct #[⟨ "Pair", 104, 0, true, "", "", 0⟩, ⟨ "cost", 3, 2, false, "", "versine/align", 16⟩, ⟨ "many", 3, 3, false, "", "versine/align", 24⟩, ⟨ "next", 3, 4, false, "", "versine/align", 32⟩], 5, 40, .agg #[.int .i64 0, .int .i64 0, .int .i64 0, .int .i64 0, .int .i64 0]⟩),
  (36, ⟨.slice 180, 1, 24, .slice none 0 0⟩),
  (67, ⟨.slice 168, 1, 24, .slice none 0 0⟩),
  (52, ⟨.slice 45, 1, 24, .slice none 0 0⟩),
  (40, ⟨.struct #[⟨ "Missed", 3, 0, false, "", "", 0⟩, ⟨ "Unseen", 3, 1, false, "", "", 8⟩, ⟨ "Stretch", 3, 2, false, "", "", 16⟩], 3, 24, .agg #[.int .i64 0, .int .i64 0, .int .i64 0]⟩),
  (31, ⟨.slice 104, 1, 24, .slice none 0 0⟩),
  (173, ⟨.slice 176, 1, 24, .slice none 0 0⟩),
  (227, ⟨.struct #[⟨ "kind", 9, 0, false, "", "versine/align", 0⟩, ⟨ "at", 3, 1, false, "", "versine/align", 16⟩], 2, 24, .agg #[.string ⟨#[]⟩, .int .i64 0]⟩),
  (35, ⟨.slice 179, 1, 24, .slice none 0 0⟩),
  (27, ⟨.struct #[⟨ "Missed", 3, 0, false, "", "", 0⟩, ⟨ "Unseen", 3, 1, false, "", "", 8⟩, ⟨ "Stretch", 3, 2, false, "", "", 16⟩], 3, 24, .agg #[.int .i64 0, .int .i64 0, .int .i64 0]⟩),
  (134, ⟨.float .f32, 1, 4, .float .f32 0⟩),
  (168, ⟨.struct #[⟨ "From", 3, 0, false, "", "", 0⟩, ⟨ "To", 3, 1, false, "", "", 8⟩], 2, 16, .agg #[.int .i64 0, .int .i64 0]⟩),
  (179, ⟨.struct #[⟨ "Kind", 9, 0, false, "", "", 0⟩, ⟨ "Place", 3, 1, false, "", "", 16⟩], 2, 24, .agg #[.string ⟨#[]⟩, .int .i64 0]⟩),
  (180, ⟨.struct #[⟨ "Kind", 9, 0, false, "", "", 0⟩, ⟨ "Count", 3, 1, false, "", "", 16⟩], 2, 24, .agg #[.string ⟨#[]⟩, .int .i64 0]⟩),
  (223, ⟨.slice 227, 1, 24, .slice none 0 0⟩),
  (126, ⟨.struct #[⟨ "Low", 3, 0, false, "", "", 0⟩, ⟨ "High", 3, 1, false, "", "", 8⟩], 2, 16, .agg #[.int .i64 0, .int .i64 0]⟩),
  (207, ⟨.struct #[⟨ "x", 134, 0, false, "", "versine/align", 0⟩, ⟨ "known", 4, 1, false, "", "versine/align", 4⟩], 2, 8, .agg #[.float .f32 0, .bool false]⟩),
  (263, ⟨.slice 32, 1, 24, .slice none 0 0⟩),
  (158, ⟨.slice 9, 1, 24, .slice none 0 0⟩),
  (117, ⟨.struct #[⟨ "Kind", 9, 0, false, "", "", 0⟩, ⟨ "Count", 3, 1, false, "", "", 16⟩], 2, 24, .agg #[.string ⟨#[]⟩, .int .i64 0]⟩),
  (115, ⟨.struct #[⟨ "Kind", 9, 0, false, "", "", 0⟩, ⟨ "Place", 3, 1, false, "", "", 16⟩], 2, 24, .agg #[.string ⟨#[]⟩, .int .i64 0]⟩),
  (165, ⟨.array 2 3, 2, 16, .agg #[.int .i64 0, .int .i64 0]⟩),
  (204, ⟨.slice 207, 1, 24, .slice none 0 0⟩),
  (4, ⟨.bool, 1, 1, .bool false⟩),
  (124, ⟨.struct #[⟨ "Rate", 3, 0, false, "", "", 0⟩, ⟨ "Blur", 3, 1, false, "", "", 8⟩], 2, 16, .agg #[.int .i64 0, .int .i64 0]⟩),
  (188, ⟨.slice 46, 1, 24, .slice none 0 0⟩),
  (5, ⟨.int .u8, 1, 1, .int .u8 0⟩),
  (84, ⟨.struct #[⟨ "Shift", 3, 0, false, "", "", 0⟩, ⟨ "Most", 3, 1, false, "", "", 8⟩, ⟨ "Least", 3, 2, false, "", "", 16⟩], 3, 24, .agg #[.int .i64 0, .int .i64 0, .int .i64 0]⟩),
  (243, ⟨.array 2 104, 4, 32, .agg #[.int .i64 0, .int .i64 0, .int .i64 0, .int .i64 0]⟩),
  (21, ⟨.int .i32, 1, 4, .int .i32 0⟩),
  (121, ⟨.slice 165, 1, 24, .slice none 0 0⟩),
  (182, ⟨.slice 4, 1, 24, .slice none 0 0⟩),
  (110, ⟨.struct #[⟨ "Slip", 108, 0, false, "", "", 0⟩, ⟨ "Count", 3, 2, false, "", "", 16⟩], 3, 24, .agg #[.int .i64 0, .int .i64 0, .int .i64 0]⟩),
  (99, ⟨.struct #[⟨ "Pairs", 46, 0, false, "", "", 0⟩, ⟨ "Table", 52, 1, false, "", "", 24⟩], 2, 48, .agg #[.slice none 0 0, .slice none 0 0]⟩),
  (108, ⟨.struct #[⟨ "Rate", 3, 0, false, "", "", 0⟩, ⟨ "Blur", 3, 1, false, "", "", 8⟩], 2, 16, .agg #[.int .i64 0, .int .i64 0]⟩),
  (136, ⟨.struct #[⟨ "By", 3, 0, false, "", "", 0⟩, ⟨ "Limit", 134, 1, false, "", "", 8⟩], 2, 16, .agg #[.int .i64 0, .float .f32 0]⟩),
  (251, ⟨.struct #[⟨ "word", 9, 0, false, "", "versine/align", 0⟩, ⟨ "may", 248, 1, false, "", "versine/align", 16⟩, ⟨ "add", 249, 2, false, "", "versine/align", 24⟩], 3, 32, .agg #[.string ⟨#[]⟩, .nilFunc, .nilFunc]⟩),
  (295, ⟨.struct #[⟨ "words", 158, 0, false, "", "versine/align", 0⟩], 1, 24, .agg #[.slice none 0 0]⟩),
  (145, ⟨.int .i8, 1, 1, .int .i8 0⟩),
  (183, ⟨.func #[3, 3] #[] false, 1, 8, .nilFunc⟩),
  (268, ⟨.int .u64, 1, 8, .int .u64 0⟩),
  (287, ⟨.slice 223, 1, 24, .slice none 0 0⟩),
  (146, ⟨.array 3 145, 3, 3, .agg #[.int .i8 0, .int .i8 0, .int .i8 0]⟩),
  (252, ⟨.array 2 251, 6, 64, .agg #[.string ⟨#[]⟩, .nilFunc, .nilFunc, .string ⟨#[]⟩, .nilFunc, .nilFunc]⟩),
  (276, ⟨.map 9 45, 1, 8, .map none⟩),
  (259, ⟨.pointer 38, 1, 8, .pointer none⟩),
  (298, ⟨.slice 251, 1, 24, .slice none 0 0⟩),
  (248, ⟨.func #[259] #[4] false, 1, 8, .nilFunc⟩),
  (249, ⟨.func #[259, 227] #[] false, 1, 8, .nilFunc⟩)]
theorem tys_ok : TValid Tryz.prog tys :=
  tvalid_cons (by kernel_rfl) (by kernel_rfl) <|
  tvalid_cons (by kernel_rfl) (by kernel_rfl) <|
  tvalid_cons (by kernel_rfl) (by kernel_rfl) <|
  tvalid_cons (by kernel_rfl) (by kernel_rfl) <|
  tvalid_cons (by kernel_rfl) (by kernel_rfl) <|
  tvalid_cons (by kernel_rfl) (by kernel_rfl) <|
  tvalid_cons (by kernel_rfl) (by kernel_rfl) <|
  tvalid_cons (by kernel_rfl) (by kernel_rfl) <|
  tvalid_cons (by kernel_rfl) (by kernel_rfl) <|
  tvalid_cons (by kernel_rfl) (by kernel_rfl) <|
  tvalid_cons (by kernel_rfl) (by kernel_rfl) <|
  tvalid_cons (by kernel_rfl) (by kernel_rfl) <|
  tvalid_cons (by kernel_rfl) (by kernel_rfl) <|
  tvalid_cons (by kernel_rfl) (by kernel_rfl) <|
  tvalid_cons (by kernel_rfl) (by kernel_rfl) <|
  tvalid_cons (by kernel_rfl) (by kernel_rfl) <|
  tvalid_cons (by kernel_rfl) (by kernel_rfl) <|
  tvalid_cons (by kernel_rfl) (by kernel_rfl) <|
  tvalid_cons (by kernel_rfl) (by kernel_rfl) <|
  tvalid_cons (by kernel_rfl) (by kernel_rfl) <|
  tvalid_cons (by kernel_rfl) (by kernel_rfl) <|
  tvalid_cons (by kernel_rfl) (by kernel_rfl) <|
  tvalid_cons (by kernel_rfl) (by kernel_rfl) <|
  tvalid_cons (by kernel_rfl) (by kernel_rfl) <|
  tvalid_cons (by kernel_rfl) (by kernel_rfl) <|
  tvalid_cons (by kernel_rfl) (by kernel_rfl) <|
  tvalid_cons (by kernel_rfl) (by kernel_rfl) <|
  tvalid_cons (by kernel_rfl) (by kernel_rfl) <|
  tvalid_cons (by kernel_rfl) (by kernel_rfl) <|
  tvalid_cons (by kernel_rfl) (by kernel_rfl) <|
  tvalid_cons (by kernel_rfl) (by kernel_rfl) <|
  tvalid_cons (by kernel_rfl) (by kernel_rfl) <|
  tvalid_cons (by kernel_rfl) (by kernel_rfl) <|
  tvalid_cons (by kernel_rfl) (by kernel_rfl) <|
  tvalid_cons (by kernel_rfl) (by kernel_rfl) <|
  tvalid_cons (by kernel_rfl) (by kernel_rfl) <|
  tvalid_cons (by kernel_rfl) (by kernel_rfl) <|
  tvalid_cons (by kernel_rfl) (by kernel_rfl) <|
  tvalid_cons (by kernel_rfl) (by kernel_rfl) <|
  tvalid_cons (by kernel_rfl) (by kernel_rfl) <|
  tvalid_cons (by kernel_rfl) (by kernel_rfl) <|
  tvalid_cons (by kernel_rfl) (by kernel_rfl) <|
  tvalid_cons (by kernel_rfl) (by kernel_rfl) <|
  tvalid_cons (by kernel_rfl) (by kernel_rfl) <|
  tvalid_cons (by kernel_rfl) (by kernel_rfl) <|
  tvalid_cons (by kernel_rfl) (by kernel_rfl) <|
  tvalid_cons (by kernel_rfl) (by kernel_rfl) <|
  tvalid_cons (by kernel_rfl) (by kernel_rfl) <|
  tvalid_cons (by kernel_rfl) (by kernel_rfl) <|
  tvalid_cons (by kernel_rfl) (by kernel_rfl) <|
  tvalid_cons (by kernel_rfl) (by kernel_rfl) <|
  tvalid_cons (by kernel_rfl) (by kernel_rfl) <|
  tvalid_cons (by kernel_rfl) (by kernel_rfl) <|
  tvalid_cons (by kernel_rfl) (by kernel_rfl) <|
  tvalid_cons (by kernel_rfl) (by kernel_rfl) <|
  tvalid_cons (by kernel_rfl) (by kernel_rfl) <|
  tvalid_cons (by kernel_rfl) (by kernel_rfl) <|
  tvalid_cons (by kernel_rfl) (by kernel_rfl) <|
  tvalid_cons (by kernel_rfl) (by kernel_rfl) <|
  tvalid_cons (by kernel_rfl) (by kernel_rfl) <|
  tvalid_cons (by kernel_rfl) (by kernel_rfl) <|
  tvalid_cons (by kernel_rfl) (by kernel_rfl) <|
  tvalid_cons (by kernel_rfl) (by kernel_rfl) <|
  tvalid_cons (by kernel_rfl) (by kernel_rfl) <|
  tvalid_nil _
theorem mixed : Tryz.prog.follows .mixedOrders = true := by kernel_rfl

end Go.Proofs.YtoopgdchiljmiaaGreatDoor
