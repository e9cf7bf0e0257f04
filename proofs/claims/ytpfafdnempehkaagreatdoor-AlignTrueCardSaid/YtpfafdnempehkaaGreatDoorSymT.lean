/- The types that this seat's code uses. -/
import Derived.Test.YtpfafdnempehkaaGreatDoorChecked
import Derived.Test.YtpfafdnempehkaaGreatDoorSB
set_option linter.unusedVariables false
set_option linter.unusedSimpArgs false
namespace Go.Proofs.YtpfafdnempehkaaGreatDoor
open Go.RowKit Go.Sym

def tys : List (Nat × TyI) := [
  (3, ⟨.int .i64, 1, 8, .int .i64 0⟩),
  (68, ⟨.struct #[⟨ "Sight", 3, 0, false, "", "", 0⟩, ⟨ "Mark", 3, 1, false, "", "", 8⟩], 2, 16, .agg #[.int .i64 0, .int .i64 0]⟩),
  (52, ⟨.struct #[⟨ "Marks", 49, 0, false, "", "", 0⟩, ⟨ "Sights", 50, 1, false, "", "", 24⟩], 2, 48, .agg #[.slice none 0 0, .slice none 0 0]⟩),
  (74, ⟨.slice 3, 1, 24, .slice none 0 0⟩),
  (85, ⟨.struct #[⟨ "Name", 9, 0, false, "", "", 0⟩, ⟨ "First", 3, 1, false, "", "", 16⟩, ⟨ "Samples", 82, 2, false, "", "", 24⟩, ⟨ "Holes", 83, 3, false, "", "", 48⟩], 4, 72, .agg #[.string ⟨#[]⟩, .int .i64 0, .slice none 0 0, .slice none 0 0]⟩),
  (127, ⟨.struct #[⟨ "Pair", 68, 0, true, "", "", 0⟩, ⟨ "cost", 3, 2, false, "", "versine/align", 16⟩, ⟨ "many", 3, 3, false, "", "versine/align", 24⟩, ⟨ "next", 3, 4, false, "", "versine/align", 32⟩], 5, 40, .agg #[.int .i64 0, .int .i64 0, .int .i64 0, .int .i64 0, .int .i64 0]⟩),
  (50, ⟨.slice 118, 1, 24, .slice none 0 0⟩),
  (124, ⟨.slice 127, 1, 24, .slice none 0 0⟩),
  (154, ⟨.struct #[⟨ "kind", 9, 0, false, "", "versine/align", 0⟩, ⟨ "at", 3, 1, false, "", "versine/align", 16⟩], 2, 24, .agg #[.string ⟨#[]⟩, .int .i64 0]⟩),
  (49, ⟨.slice 119, 1, 24, .slice none 0 0⟩),
  (64, ⟨.struct #[⟨ "Missed", 3, 0, false, "", "", 0⟩, ⟨ "Unseen", 3, 1, false, "", "", 8⟩, ⟨ "Stretch", 3, 2, false, "", "", 16⟩], 3, 24, .agg #[.int .i64 0, .int .i64 0, .int .i64 0]⟩),
  (54, ⟨.slice 68, 1, 24, .slice none 0 0⟩),
  (46, ⟨.int .i64, 1, 8, .int .i64 0⟩),
  (34, ⟨.struct #[⟨ "Marks", 31, 0, false, "", "", 0⟩, ⟨ "Sights", 32, 1, false, "", "", 24⟩], 2, 48, .agg #[.slice none 0 0, .slice none 0 0]⟩),
  (9, ⟨.string, 1, 16, .string ⟨#[]⟩⟩),
  (118, ⟨.struct #[⟨ "Kind", 9, 0, false, "", "", 0⟩, ⟨ "Count", 3, 1, false, "", "", 16⟩], 2, 24, .agg #[.string ⟨#[]⟩, .int .i64 0]⟩),
  (119, ⟨.struct #[⟨ "Kind", 9, 0, false, "", "", 0⟩, ⟨ "Place", 3, 1, false, "", "", 16⟩], 2, 24, .agg #[.string ⟨#[]⟩, .int .i64 0]⟩),
  (150, ⟨.slice 154, 1, 24, .slice none 0 0⟩),
  (82, ⟨.slice 88, 1, 24, .slice none 0 0⟩),
  (31, ⟨.slice 40, 1, 24, .slice none 0 0⟩),
  (32, ⟨.slice 37, 1, 24, .slice none 0 0⟩),
  (148, ⟨.struct #[⟨ "x", 88, 0, false, "", "versine/align", 0⟩, ⟨ "known", 4, 1, false, "", "versine/align", 4⟩], 2, 8, .agg #[.float .f32 0, .bool false]⟩),
  (186, ⟨.slice 46, 1, 24, .slice none 0 0⟩),
  (69, ⟨.slice 74, 1, 24, .slice none 0 0⟩),
  (98, ⟨.struct #[⟨ "From", 3, 0, false, "", "", 0⟩, ⟨ "To", 3, 1, false, "", "", 8⟩], 2, 16, .agg #[.int .i64 0, .int .i64 0]⟩),
  (102, ⟨.struct #[⟨ "Num", 3, 0, false, "", "", 0⟩, ⟨ "Den", 3, 1, false, "", "", 8⟩], 2, 16, .agg #[.int .i64 0, .int .i64 0]⟩),
  (83, ⟨.slice 98, 1, 24, .slice none 0 0⟩),
  (45, ⟨.struct #[⟨ "Low", 3, 0, false, "", "", 0⟩, ⟨ "High", 3, 1, false, "", "", 8⟩], 2, 16, .agg #[.int .i64 0, .int .i64 0]⟩),
  (88, ⟨.float .f32, 1, 4, .float .f32 0⟩),
  (30, ⟨.struct #[⟨ "Rate", 3, 0, false, "", "", 0⟩, ⟨ "Blur", 3, 1, false, "", "", 8⟩], 2, 16, .agg #[.int .i64 0, .int .i64 0]⟩),
  (93, ⟨.array 2 3, 2, 16, .agg #[.int .i64 0, .int .i64 0]⟩),
  (145, ⟨.slice 148, 1, 24, .slice none 0 0⟩),
  (37, ⟨.struct #[⟨ "Kind", 9, 0, false, "", "", 0⟩, ⟨ "Count", 3, 1, false, "", "", 16⟩], 2, 24, .agg #[.string ⟨#[]⟩, .int .i64 0]⟩),
  (4, ⟨.bool, 1, 1, .bool false⟩),
  (35, ⟨.slice 42, 1, 24, .slice none 0 0⟩),
  (40, ⟨.struct #[⟨ "Kind", 9, 0, false, "", "", 0⟩, ⟨ "Place", 3, 1, false, "", "", 16⟩], 2, 24, .agg #[.string ⟨#[]⟩, .int .i64 0]⟩),
  (95, ⟨.struct #[⟨ "Name", 9, 0, false, "", "", 0⟩, ⟨ "First", 3, 1, false, "", "", 16⟩, ⟨ "Samples", 82, 2, false, "", "", 24⟩, ⟨ "Holes", 83, 3, false, "", "", 48⟩], 4, 72, .agg #[.string ⟨#[]⟩, .int .i64 0, .slice none 0 0, .slice none 0 0]⟩),
  (5, ⟨.int .u8, 1, 1, .int .u8 0⟩),
  (120, ⟨.array 2 68, 4, 32, .agg #[.int .i64 0, .int .i64 0, .int .i64 0, .int .i64 0]⟩),
  (42, ⟨.struct #[⟨ "Sight", 3, 0, false, "", "", 0⟩, ⟨ "Mark", 3, 1, false, "", "", 8⟩], 2, 16, .agg #[.int .i64 0, .int .i64 0]⟩),
  (26, ⟨.struct #[⟨ "Gaps", 22, 0, false, "", "", 0⟩, ⟨ "Off", 23, 1, false, "", "", 24⟩, ⟨ "Every", 5, 2, false, "", "", 48⟩, ⟨ "Way", 5, 3, false, "", "", 49⟩, ⟨ "Count", 24, 4, false, "", "", 50⟩], 5, 56, .agg #[.slice none 0 0, .slice none 0 0, .int .u8 0, .int .u8 0, .int .u16 0]⟩),
  (56, ⟨.slice 93, 1, 24, .slice none 0 0⟩),
  (22, ⟨.slice 5, 1, 24, .slice none 0 0⟩),
  (21, ⟨.int .i32, 1, 4, .int .i32 0⟩),
  (135, ⟨.slice 4, 1, 24, .slice none 0 0⟩),
  (136, ⟨.func #[3, 3] #[] false, 1, 8, .nilFunc⟩),
  (191, ⟨.int .u64, 1, 8, .int .u64 0⟩),
  (208, ⟨.slice 150, 1, 24, .slice none 0 0⟩),
  (23, ⟨.slice 38, 1, 24, .slice none 0 0⟩),
  (199, ⟨.map 9 74, 1, 8, .map none⟩),
  (24, ⟨.int .u16, 1, 2, .int .u16 0⟩),
  (38, ⟨.int .i8, 1, 1, .int .i8 0⟩),
  (180, ⟨.struct #[⟨ "word", 9, 0, false, "", "versine/align", 0⟩, ⟨ "may", 177, 1, false, "", "versine/align", 16⟩, ⟨ "add", 178, 2, false, "", "versine/align", 24⟩], 3, 32, .agg #[.string ⟨#[]⟩, .nilFunc, .nilFunc]⟩),
  (181, ⟨.array 2 180, 6, 64, .agg #[.string ⟨#[]⟩, .nilFunc, .nilFunc, .string ⟨#[]⟩, .nilFunc, .nilFunc]⟩),
  (212, ⟨.slice 9, 1, 24, .slice none 0 0⟩),
  (177, ⟨.func #[265] #[4] false, 1, 8, .nilFunc⟩),
  (178, ⟨.func #[265, 154] #[] false, 1, 8, .nilFunc⟩)]
theorem tys_ok : TValid Tryz.prog tys :=
  tvalid_cons (by kernel_rfl) (by kernel_rfl) <|
  tvalid_cons (by kernel_rfl) (by kernel_rfl) <|
  tvalid_cons (by kernel_rfl) (by kernel_rfl) <|
  tvalid_cons (by kernel_rfl) (by kernel_rfl) <|
  tvalid_cons (by kernel_rfl) (by kernel_rfl) <|
  tvalid_cons (by kernel_rfl) (by kernel_rfl) <|
  tvalid_cons (by kernel_rfl) (by kernel_rfl) <|
  tvalid_cons (by kernel_rfl) (by kernel_rfl) <|
  tvalid_cons (by kernel_rfl) (by kernel_rfl) <|
  tvalid_cons (by kernel_rfl) (by kernel_rfl) <|
  tvalid_cons (by kernel_rfl) (by kernel_rfl) <|
  tvalid_cons (by kernel_rfl) (by kernel_rfl) <|
  tvalid_cons (by kernel_rfl) (by kernel_rfl) <|
  tvalid_cons (by kernel_rfl) (by kernel_rfl) <|
  tvalid_cons (by kernel_rfl) (by kernel_rfl) <|
  tvalid_cons (by kernel_rfl) (by kernel_rfl) <|
  tvalid_cons (by kernel_rfl) (by kernel_rfl) <|
  tvalid_cons (by kernel_rfl) (by kernel_rfl) <|
  tvalid_cons (by kernel_rfl) (by kernel_rfl) <|
  tvalid_cons (by kernel_rfl) (by kernel_rfl) <|
  tvalid_cons (by kernel_rfl) (by kernel_rfl) <|
  tvalid_cons (by kernel_rfl) (by kernel_rfl) <|
  tvalid_cons (by kernel_rfl) (by kernel_rfl) <|
  tvalid_cons (by kernel_rfl) (by kernel_rfl) <|
  tvalid_cons (by kernel_rfl) (by kernel_rfl) <|
  tvalid_cons (by kernel_rfl) (by kernel_rfl) <|
  tvalid_cons (by kernel_rfl) (by kernel_rfl) <|
  tvalid_cons (by kernel_rfl) (by kernel_rfl) <|
  tvalid_cons (by kernel_rfl) (by kernel_rfl) <|
  tvalid_cons (by kernel_rfl) (by kernel_rfl) <|
  tvalid_cons (by kernel_rfl) (by kernel_rfl) <|
  tvalid_cons (by kernel_rfl) (by kernel_rfl) <|
  tvalid_cons (by kernel_rfl) (by kernel_rfl) <|
  tvalid_cons (by kernel_rfl) (by kernel_rfl) <|
  tvalid_cons (by kernel_rfl) (by kernel_rfl) <|
  tvalid_cons (by kernel_rfl) (by kernel_rfl) <|
  tvalid_cons (by kernel_rfl) (by kernel_rfl) <|
  tvalid_cons (by kernel_rfl) (by kernel_rfl) <|
  tvalid_cons (by kernel_rfl) (by kernel_rfl) <|
  tvalid_cons (by kernel_rfl) (by kernel_rfl) <|
  tvalid_cons (by kernel_rfl) (by kernel_rfl) <|
  tvalid_cons (by kernel_rfl) (by kernel_rfl) <|
  tvalid_cons (by kernel_rfl) (by kernel_rfl) <|
  tvalid_cons (by kernel_rfl) (by kernel_rfl) <|
  tvalid_cons (by kernel_rfl) (by kernel_rfl) <|
  tvalid_cons (by kernel_rfl) (by kernel_rfl) <|
  tvalid_cons (by kernel_rfl) (by kernel_rfl) <|
  tvalid_cons (by kernel_rfl) (by kernel_rfl) <|
  tvalid_cons (by kernel_rfl) (by kernel_rfl) <|
  tvalid_cons (by kernel_rfl) (by kernel_rfl) <|
  tvalid_cons (by kernel_rfl) (by kernel_rfl) <|
  tvalid_cons (by kernel_rfl) (by kernel_rfl) <|
  tvalid_cons (by kernel_rfl) (by kernel_rfl) <|
  tvalid_cons (by kernel_rfl) (by kernel_rfl) <|
  tvalid_cons (by kernel_rfl) (by kernel_rfl) <|
  tvalid_cons (by kernel_rfl) (by kernel_rfl) <|
  tvalid_cons (by kernel_rfl) (by kernel_rfl) <|
  tvalid_nil _
theorem mixed : Tryz.prog.follows .mixedOrders = true := by kernel_rfl

end Go.Proofs.YtpfafdnempehkaaGreatDoor
