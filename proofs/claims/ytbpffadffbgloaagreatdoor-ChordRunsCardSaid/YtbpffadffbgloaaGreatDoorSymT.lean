/- The types that this seat's code uses. -/
import Derived.Test.YtbpffadffbgloaaGreatDoorChecked
import Derived.Test.YtbpffadffbgloaaGreatDoorSB
set_option linter.unusedVariables false
set_option linter.unusedSimpArgs false
namespace Go.Proofs.YtbpffadffbgloaaGreatDoor
open Go.RowKit Go.Sym

def tys : List (Nat × TyI) := [
  (3, ⟨.int .i64, 1, 8, .int .i64 0⟩),
  (22, ⟨.slice 3, 1, 24, .slice none 0 0⟩),
  (29, ⟨.struct #[⟨ "First", 3, 0, false, "", "", 0⟩, ⟨ "Values", 22, 1, false, "", "", 8⟩, ⟨ "Holes", 23, 2, false, "", "", 32⟩], 3, 56, .agg #[.int .i64 0, .slice none 0 0, .slice none 0 0]⟩),
  (25, ⟨.struct #[⟨ "First", 3, 0, false, "", "", 0⟩, ⟨ "Values", 22, 1, false, "", "", 8⟩, ⟨ "Holes", 23, 2, false, "", "", 32⟩], 3, 56, .agg #[.int .i64 0, .slice none 0 0, .slice none 0 0]⟩),
  (56, ⟨.struct #[⟨ "Before", 3, 0, false, "", "", 0⟩, ⟨ "After", 3, 1, false, "", "", 8⟩], 2, 16, .agg #[.int .i64 0, .int .i64 0]⟩),
  (23, ⟨.slice 102, 1, 24, .slice none 0 0⟩),
  (102, ⟨.struct #[⟨ "From", 3, 0, false, "", "", 0⟩, ⟨ "To", 3, 1, false, "", "", 8⟩], 2, 16, .agg #[.int .i64 0, .int .i64 0]⟩),
  (9, ⟨.string, 1, 16, .string ⟨#[]⟩⟩),
  (30, ⟨.int .i64, 1, 8, .int .i64 0⟩),
  (53, ⟨.struct #[⟨ "Before", 3, 0, false, "", "", 0⟩, ⟨ "After", 3, 1, false, "", "", 8⟩], 2, 16, .agg #[.int .i64 0, .int .i64 0]⟩),
  (35, ⟨.array 4 34, 4, 64, .agg #[.complex .f64 0 0, .complex .f64 0 0, .complex .f64 0 0, .complex .f64 0 0]⟩),
  (66, ⟨.slice 147, 1, 24, .slice none 0 0⟩),
  (44, ⟨.struct #[⟨ "Re", 3, 0, false, "", "", 0⟩, ⟨ "Im", 3, 1, false, "", "", 8⟩], 2, 16, .agg #[.int .i64 0, .int .i64 0]⟩),
  (68, ⟨.struct #[⟨ "Name", 9, 0, false, "", "", 0⟩, ⟨ "First", 3, 1, false, "", "", 16⟩, ⟨ "Samples", 66, 2, false, "", "", 24⟩, ⟨ "Holes", 23, 3, false, "", "", 48⟩], 4, 72, .agg #[.string ⟨#[]⟩, .int .i64 0, .slice none 0 0, .slice none 0 0]⟩),
  (114, ⟨.struct #[⟨ "Trace", 29, 0, true, "", "", 0⟩, ⟨ "known", 112, 3, false, "", "versine/chord", 56⟩], 4, 80, .agg #[.int .i64 0, .slice none 0 0, .slice none 0 0, .slice none 0 0]⟩),
  (140, ⟨.struct #[⟨ "n", 3, 0, false, "", "versine/versineref03", 0⟩, ⟨ "known", 4, 1, false, "", "versine/versineref03", 8⟩], 2, 16, .agg #[.int .i64 0, .bool false]⟩),
  (147, ⟨.float .f32, 1, 4, .float .f32 0⟩),
  (86, ⟨.slice 9, 1, 24, .slice none 0 0⟩),
  (129, ⟨.slice 30, 1, 24, .slice none 0 0⟩),
  (112, ⟨.slice 4, 1, 24, .slice none 0 0⟩),
  (138, ⟨.slice 140, 1, 24, .slice none 0 0⟩),
  (4, ⟨.bool, 1, 1, .bool false⟩),
  (184, ⟨.array 2 3, 2, 16, .agg #[.int .i64 0, .int .i64 0]⟩),
  (71, ⟨.struct #[⟨ "Name", 9, 0, false, "", "", 0⟩, ⟨ "First", 3, 1, false, "", "", 16⟩, ⟨ "Samples", 66, 2, false, "", "", 24⟩, ⟨ "Holes", 23, 3, false, "", "", 48⟩], 4, 72, .agg #[.string ⟨#[]⟩, .int .i64 0, .slice none 0 0, .slice none 0 0]⟩),
  (45, ⟨.array 4 44, 8, 64, .agg #[.int .i64 0, .int .i64 0, .int .i64 0, .int .i64 0, .int .i64 0, .int .i64 0, .int .i64 0, .int .i64 0]⟩),
  (5, ⟨.int .u8, 1, 1, .int .u8 0⟩),
  (180, ⟨.slice 183, 1, 24, .slice none 0 0⟩),
  (183, ⟨.struct #[⟨ "factor", 3, 0, false, "", "versine/chord", 0⟩, ⟨ "away", 3, 1, false, "", "versine/chord", 8⟩], 2, 16, .agg #[.int .i64 0, .int .i64 0]⟩),
  (54, ⟨.array 2 25, 6, 112, .agg #[.int .i64 0, .slice none 0 0, .slice none 0 0, .int .i64 0, .slice none 0 0, .slice none 0 0]⟩),
  (21, ⟨.int .i32, 1, 4, .int .i32 0⟩),
  (175, ⟨.struct #[⟨ "words", 86, 0, false, "", "versine/chord", 0⟩, ⟨ "wrong", 4, 1, false, "", "versine/chord", 24⟩], 2, 32, .agg #[.slice none 0 0, .bool false]⟩),
  (160, ⟨.struct #[⟨ "Trace", 29, 0, true, "", "", 0⟩, ⟨ "many", 3, 3, false, "", "versine/chord", 56⟩], 4, 64, .agg #[.int .i64 0, .slice none 0 0, .slice none 0 0, .int .i64 0]⟩),
  (26, ⟨.array 3 3, 3, 24, .agg #[.int .i64 0, .int .i64 0, .int .i64 0]⟩),
  (116, ⟨.array 4 3, 4, 32, .agg #[.int .i64 0, .int .i64 0, .int .i64 0, .int .i64 0]⟩),
  (158, ⟨.pointer 160, 1, 8, .pointer none⟩),
  (171, ⟨.struct #[⟨ "first", 4, 0, false, "", "versine/chord", 0⟩, ⟨ "read", 169, 1, false, "", "versine/chord", 8⟩], 2, 16, .agg #[.bool false, .nilFunc]⟩),
  (127, ⟨.float .f64, 1, 8, .float .f64 0⟩),
  (191, ⟨.int .u64, 1, 8, .int .u64 0⟩),
  (34, ⟨.complex .f64, 1, 16, .complex .f64 0 0⟩),
  (161, ⟨.map 9 171, 1, 8, .map none⟩),
  (190, ⟨.slice 44, 1, 24, .slice none 0 0⟩),
  (213, ⟨.array 4 184, 8, 64, .agg #[.int .i64 0, .int .i64 0, .int .i64 0, .int .i64 0, .int .i64 0, .int .i64 0, .int .i64 0, .int .i64 0]⟩)]
theorem tys_ok : TValid Tryz.prog tys :=
  tvalid_cons (by kernel_rfl) (by kernel_rfl) <|
  tvalid_cons (by kernel_rfl) (by kernel_rfl) <|
  tvalid_cons (by kernel_rfl) (by kernel_rfl) <|
  tvalid_cons (by kernel_rfl) (by kernel_rfl) <|
  tvalid_cons (by kernel_rfl) (by kernel_rfl) <|
  tvalid_cons (by kernel_rfl) (by kernel_rfl) <|
  tvalid_cons (by kernel_rfl) (by kernel_rfl) <|
  tvalid_cons (by kernel_rfl) (by kernel_rfl) <|
  tvalid_cons (by kernel_rfl) (by kernel_rfl) <|
  tvalid_cons (by kernel_rfl) (by kernel_rfl) <|
  tvalid_cons (by kernel_rfl) (by kernel_rfl) <|
  tvalid_cons (by kernel_rfl) (by kernel_rfl) <|
  tvalid_cons (by kernel_rfl) (by kernel_rfl) <|
  tvalid_cons (by kernel_rfl) (by kernel_rfl) <|
  tvalid_cons (by kernel_rfl) (by kernel_rfl) <|
  tvalid_cons (by kernel_rfl) (by kernel_rfl) <|
  tvalid_cons (by kernel_rfl) (by kernel_rfl) <|
  tvalid_cons (by kernel_rfl) (by kernel_rfl) <|
  tvalid_cons (by kernel_rfl) (by kernel_rfl) <|
  tvalid_cons (by kernel_rfl) (by kernel_rfl) <|
  tvalid_cons (by kernel_rfl) (by kernel_rfl) <|
  tvalid_cons (by kernel_rfl) (by kernel_rfl) <|
  tvalid_cons (by kernel_rfl) (by kernel_rfl) <|
  tvalid_cons (by kernel_rfl) (by kernel_rfl) <|
  tvalid_cons (by kernel_rfl) (by kernel_rfl) <|
  tvalid_cons (by kernel_rfl) (by kernel_rfl) <|
  tvalid_cons (by kernel_rfl) (by kernel_rfl) <|
  tvalid_cons (by kernel_rfl) (by kernel_rfl) <|
  tvalid_cons (by kernel_rfl) (by kernel_rfl) <|
  tvalid_cons (by kernel_rfl) (by kernel_rfl) <|
  tvalid_cons (by kernel_rfl) (by kernel_rfl) <|
  tvalid_cons (by kernel_rfl) (by kernel_rfl) <|
  tvalid_cons (by kernel_rfl) (by kernel_rfl) <|
  tvalid_cons (by kernel_rfl) (by kernel_rfl) <|
  tvalid_cons (by kernel_rfl) (by kernel_rfl) <|
  tvalid_cons (by kernel_rfl) (by kernel_rfl) <|
  tvalid_cons (by kernel_rfl) (by kernel_rfl) <|
  tvalid_cons (by kernel_rfl) (by kernel_rfl) <|
  tvalid_cons (by kernel_rfl) (by kernel_rfl) <|
  tvalid_cons (by kernel_rfl) (by kernel_rfl) <|
  tvalid_cons (by kernel_rfl) (by kernel_rfl) <|
  tvalid_cons (by kernel_rfl) (by kernel_rfl) <|
  tvalid_nil _
theorem mixed : Tryz.prog.follows .mixedOrders = true := by kernel_rfl

end Go.Proofs.YtbpffadffbgloaaGreatDoor
