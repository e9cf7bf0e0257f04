/- The types that this seat's code uses. -/
import Derived.Test.YthjdkmibfngjbaaGreatDoorChecked
import Derived.Test.YthjdkmibfngjbaaGreatDoorSB
set_option linter.unusedVariables false
set_option linter.unusedSimpArgs false
namespace Go.Proofs.YthjdkmibfngjbaaGreatDoor
open Go.RowKit Go.Sym

def tys : List (Nat × TyI) := [
  (3, ⟨.int .i64, 1, 8, .int .i64 0⟩),
  (116, ⟨.struct #[⟨ "Sight", 3, 0, false, "", "", 0⟩, ⟨ "Mark", 3, 1, false, "", "", 8⟩], 2, 16, .agg #[.int .i64 0, .int .i64 0]⟩),
  (38, ⟨.struct #[⟨ "Marks", 35, 0, false, "", "", 0⟩, ⟨ "Sights", 36, 1, false, "", "", 24⟩], 2, 48, .agg #[.slice none 0 0, .slice none 0 0]⟩),
  (25, ⟨.struct #[⟨ "Marks", 22, 0, false, "", "", 0⟩, ⟨ "Sights", 23, 1, false, "", "", 24⟩], 2, 48, .agg #[.slice none 0 0, .slice none 0 0]⟩),
  (96, ⟨.struct #[⟨ "Name", 9, 0, false, "", "", 0⟩, ⟨ "First", 3, 1, false, "", "", 16⟩, ⟨ "Samples", 88, 2, false, "", "", 24⟩, ⟨ "Holes", 89, 3, false, "", "", 48⟩], 4, 72, .agg #[.string ⟨#[]⟩, .int .i64 0, .slice none 0 0, .slice none 0 0]⟩),
  (46, ⟨.slice 3, 1, 24, .slice none 0 0⟩),
  (91, ⟨.struct #[⟨ "Name", 9, 0, false, "", "", 0⟩, ⟨ "First", 3, 1, false, "", "", 16⟩, ⟨ "Samples", 88, 2, false, "", "", 24⟩, ⟨ "Holes", 89, 3, false, "", "", 48⟩], 4, 72, .agg #[.string ⟨#[]⟩, .int .i64 0, .slice none 0 0, .slice none 0 0]⟩),
  (202, ⟨.struct #[⟨ "Pair", 116, 0, true, "", "", 0⟩, ⟨ "cost", 3, 2, false, "", "versine/align", 16⟩, ⟨ "many", 3, 3, false, "", "versine/align", 24⟩, ⟨ "next", 3, 4, false, "", "versine/align", 32⟩], 5, 40, .agg #[.int .i64 0, .int .i64 0, .int .i64 0, .int .i64 0, .int .i64 0]⟩),
  (88, ⟨.slice 92, 1, 24, .slice none 0 0⟩),
  (23, ⟨.slice 135, 1, 24, .slice none 0 0⟩),
  (36, ⟨.slice 148, 1, 24, .slice none 0 0⟩),
  (22, ⟨.slice 133, 1, 24, .slice none 0 0⟩),
  (199, ⟨.slice 202, 1, 24, .slice none 0 0⟩),
  (136, ⟨.struct #[⟨ "Sight", 3, 0, false, "", "", 0⟩, ⟨ "Mark", 3, 1, false, "", "", 8⟩], 2, 16, .agg #[.int .i64 0, .int .i64 0]⟩),
  (89, ⟨.slice 131, 1, 24, .slice none 0 0⟩),
  (157, ⟨.struct #[⟨ "kind", 9, 0, false, "", "versine/align", 0⟩, ⟨ "at", 3, 1, false, "", "versine/align", 16⟩], 2, 24, .agg #[.string ⟨#[]⟩, .int .i64 0]⟩),
  (35, ⟨.slice 147, 1, 24, .slice none 0 0⟩),
  (40, ⟨.struct #[⟨ "Missed", 3, 0, false, "", "", 0⟩, ⟨ "Unseen", 3, 1, false, "", "", 8⟩, ⟨ "Stretch", 3, 2, false, "", "", 16⟩], 3, 24, .agg #[.int .i64 0, .int .i64 0, .int .i64 0]⟩),
  (41, ⟨.slice 116, 1, 24, .slice none 0 0⟩),
  (9, ⟨.string, 1, 16, .string ⟨#[]⟩⟩),
  (72, ⟨.struct #[⟨ "Low", 3, 0, false, "", "", 0⟩, ⟨ "High", 3, 1, false, "", "", 8⟩], 2, 16, .agg #[.int .i64 0, .int .i64 0]⟩),
  (92, ⟨.float .f32, 1, 4, .float .f32 0⟩),
  (28, ⟨.slice 136, 1, 24, .slice none 0 0⟩),
  (32, ⟨.int .i64, 1, 8, .int .i64 0⟩),
  (131, ⟨.struct #[⟨ "From", 3, 0, false, "", "", 0⟩, ⟨ "To", 3, 1, false, "", "", 8⟩], 2, 16, .agg #[.int .i64 0, .int .i64 0]⟩),
  (147, ⟨.struct #[⟨ "Kind", 9, 0, false, "", "", 0⟩, ⟨ "Place", 3, 1, false, "", "", 16⟩], 2, 24, .agg #[.string ⟨#[]⟩, .int .i64 0]⟩),
  (148, ⟨.struct #[⟨ "Kind", 9, 0, false, "", "", 0⟩, ⟨ "Count", 3, 1, false, "", "", 16⟩], 2, 24, .agg #[.string ⟨#[]⟩, .int .i64 0]⟩),
  (154, ⟨.slice 157, 1, 24, .slice none 0 0⟩),
  (191, ⟨.struct #[⟨ "x", 92, 0, false, "", "versine/align", 0⟩, ⟨ "known", 4, 1, false, "", "versine/align", 4⟩], 2, 8, .agg #[.float .f32 0, .bool false]⟩),
  (226, ⟨.slice 32, 1, 24, .slice none 0 0⟩),
  (54, ⟨.array 2 3, 2, 16, .agg #[.int .i64 0, .int .i64 0]⟩),
  (117, ⟨.slice 46, 1, 24, .slice none 0 0⟩),
  (138, ⟨.struct #[⟨ "Num", 3, 0, false, "", "", 0⟩, ⟨ "Den", 3, 1, false, "", "", 8⟩], 2, 16, .agg #[.int .i64 0, .int .i64 0]⟩),
  (135, ⟨.struct #[⟨ "Kind", 9, 0, false, "", "", 0⟩, ⟨ "Count", 3, 1, false, "", "", 16⟩], 2, 24, .agg #[.string ⟨#[]⟩, .int .i64 0]⟩),
  (133, ⟨.struct #[⟨ "Kind", 9, 0, false, "", "", 0⟩, ⟨ "Place", 3, 1, false, "", "", 16⟩], 2, 24, .agg #[.string ⟨#[]⟩, .int .i64 0]⟩),
  (188, ⟨.slice 191, 1, 24, .slice none 0 0⟩),
  (27, ⟨.struct #[⟨ "Missed", 3, 0, false, "", "", 0⟩, ⟨ "Unseen", 3, 1, false, "", "", 8⟩, ⟨ "Stretch", 3, 2, false, "", "", 16⟩], 3, 24, .agg #[.int .i64 0, .int .i64 0, .int .i64 0]⟩),
  (68, ⟨.struct #[⟨ "Rate", 3, 0, false, "", "", 0⟩, ⟨ "Blur", 3, 1, false, "", "", 8⟩], 2, 16, .agg #[.int .i64 0, .int .i64 0]⟩),
  (75, ⟨.struct #[⟨ "Rate", 3, 0, false, "", "", 0⟩, ⟨ "Blur", 3, 1, false, "", "", 8⟩], 2, 16, .agg #[.int .i64 0, .int .i64 0]⟩),
  (4, ⟨.bool, 1, 1, .bool false⟩),
  (70, ⟨.struct #[⟨ "Slip", 68, 0, false, "", "", 0⟩, ⟨ "Count", 3, 2, false, "", "", 16⟩], 3, 24, .agg #[.int .i64 0, .int .i64 0, .int .i64 0]⟩),
  (76, ⟨.slice 54, 1, 24, .slice none 0 0⟩),
  (178, ⟨.array 2 116, 4, 32, .agg #[.int .i64 0, .int .i64 0, .int .i64 0, .int .i64 0]⟩),
  (5, ⟨.int .u8, 1, 1, .int .u8 0⟩),
  (21, ⟨.int .i32, 1, 4, .int .i32 0⟩),
  (94, ⟨.struct #[⟨ "By", 3, 0, false, "", "", 0⟩, ⟨ "Limit", 92, 1, false, "", "", 8⟩], 2, 16, .agg #[.int .i64 0, .float .f32 0]⟩),
  (209, ⟨.slice 4, 1, 24, .slice none 0 0⟩),
  (210, ⟨.func #[3, 3] #[] false, 1, 8, .nilFunc⟩),
  (232, ⟨.slice 154, 1, 24, .slice none 0 0⟩),
  (241, ⟨.int .u64, 1, 8, .int .u64 0⟩),
  (249, ⟨.map 9 46, 1, 8, .map none⟩),
  (224, ⟨.struct #[⟨ "word", 9, 0, false, "", "versine/align", 0⟩, ⟨ "may", 221, 1, false, "", "versine/align", 16⟩, ⟨ "add", 222, 2, false, "", "versine/align", 24⟩], 3, 32, .agg #[.string ⟨#[]⟩, .nilFunc, .nilFunc]⟩),
  (225, ⟨.array 2 224, 6, 64, .agg #[.string ⟨#[]⟩, .nilFunc, .nilFunc, .string ⟨#[]⟩, .nilFunc, .nilFunc]⟩),
  (252, ⟨.slice 9, 1, 24, .slice none 0 0⟩),
  (221, ⟨.func #[306] #[4] false, 1, 8, .nilFunc⟩),
  (222, ⟨.func #[306, 157] #[] false, 1, 8, .nilFunc⟩)]
theorem tys_ok : TValid Tryz.prog tys :=
  tvalid_cons (by kernel_rfl) (by kernel_rfl) <|
  tvalid_cons (by kernel_rfl) (by kernel_rfl) <|
  tvalid_cons (by kernel_rfl) (by kernel_rfl) <|
  tvalid_cons (by kernel_rfl) (by kernel_rfl) <|
  tvalid_cons (by kernel_rfl) (by kernel_rfl) <|
  tvalid_cons (by kernel_rfl) (by kernel_rfl) <|
  tvalid_cons (by kernel_rfl) (by kernel_rfl) <|
  tvalid_cons (by kernel_rfl) (by kernel_rfl) <|
  tvalid_cons (by kernel_rfl) (by kernel_rfl) <|
  tvalid_cons (by kernel_rfl) (by kernel_rfl) <|
  tvalid_cons (by kernel_rfl) (by kernel_rfl) <|
  tvalid_cons (by kernel_rfl) (by kernel_rfl) <|
  tvalid_cons (by kernel_rfl) (by kernel_rfl) <|
  tvalid_cons (by kernel_rfl) (by kernel_rfl) <|
  tvalid_cons (by kernel_rfl) (by kernel_rfl) <|
  tvalid_cons (by kernel_rfl) (by kernel_rfl) <|
  tvalid_cons (by kernel_rfl) (by kernel_rfl) <|
  tvalid_cons (by kernel_rfl) (by kernel_rfl) <|
  tvalid_cons (by kernel_rfl) (by kernel_rfl) <|
  tvalid_cons (by kernel_rfl) (by kernel_rfl) <|
  tvalid_cons (by kernel_rfl) (by kernel_rfl) <|
  tvalid_cons (by kernel_rfl) (by kernel_rfl) <|
  tvalid_cons (by kernel_rfl) (by kernel_rfl) <|
  tvalid_cons (by kernel_rfl) (by kernel_rfl) <|
  tvalid_cons (by kernel_rfl) (by kernel_rfl) <|
  tvalid_cons (by kernel_rfl) (by kernel_rfl) <|
  tvalid_cons (by kernel_rfl) (by kernel_rfl) <|
  tvalid_cons (by kernel_rfl) (by kernel_rfl) <|
  tvalid_cons (by kernel_rfl) (by kernel_rfl) <|
  tvalid_cons (by kernel_rfl) (by kernel_rfl) <|
  tvalid_cons (by kernel_rfl) (by kernel_rfl) <|
  tvalid_cons (by kernel_rfl) (by kernel_rfl) <|
  tvalid_cons (by kernel_rfl) (by kernel_rfl) <|
  tvalid_cons (by kernel_rfl) (by kernel_rfl) <|
  tvalid_cons (by kernel_rfl) (by kernel_rfl) <|
  tvalid_cons (by kernel_rfl) (by kernel_rfl) <|
  tvalid_cons (by kernel_rfl) (by kernel_rfl) <|
  tvalid_cons (by kernel_rfl) (by kernel_rfl) <|
  tvalid_cons (by kernel_rfl) (by kernel_rfl) <|
  tvalid_cons (by kernel_rfl) (by kernel_rfl) <|
  tvalid_cons (by kernel_rfl) (by kernel_rfl) <|
  tvalid_cons (by kernel_rfl) (by kernel_rfl) <|
  tvalid_cons (by kernel_rfl) (by kernel_rfl) <|
  tvalid_cons (by kernel_rfl) (by kernel_rfl) <|
  tvalid_cons (by kernel_rfl) (by kernel_rfl) <|
  tvalid_cons (by kernel_rfl) (by kernel_rfl) <|
  tvalid_cons (by kernel_rfl) (by kernel_rfl) <|
  tvalid_cons (by kernel_rfl) (by kernel_rfl) <|
  tvalid_cons (by kernel_rfl) (by kernel_rfl) <|
  tvalid_cons (by kernel_rfl) (by kernel_rfl) <|
  tvalid_cons (by kernel_rfl) (by kernel_rfl) <|
  tvalid_cons (by kernel_rfl) (by kernel_rfl) <|
  tvalid_cons (by kernel_rfl) (by kernel_rfl) <|
  tvalid_cons (by kernel_rfl) (by kernel_rfl) <|
  tvalid_cons (by kernel_rfl) (by kernel_rfl) <|
  tvalid_cons (by kernel_rfl) (by kernel_rfl) <|
  tvalid_nil _
theorem mixed : Tryz.prog.follows .mixedOrders = true := by kernel_rfl

end Go.Proofs.YthjdkmibfngjbaaGreatDoor
