/- The types that this seat's code uses. -/
import Derived.Test.YtbpffadffbgloaaDoorChecked
import Derived.Test.YtbpffadffbgloaaDoorSB
set_option linter.unusedVariables false
set_option linter.unusedSimpArgs false
namespace Go.Proofs.YtbpffadffbgloaaDoor
open Go.RowKit Go.Sym

def tys : List (Nat × TyI) := [
  (3, ⟨.int .i64, 1, 8, .int .i64 0⟩),
  (30, ⟨.struct #[⟨ "First", 3, 0, false, "", "", 0⟩, ⟨ "Values", 24, 1, false, "", "", 8⟩, ⟨ "Holes", 25, 2, false, "", "", 32⟩], 3, 56, .agg #[.int .i64 0, .slice none 0 0, .slice none 0 0]⟩),
  (24, ⟨.slice 3, 1, 24, .slice none 0 0⟩),
  (27, ⟨.struct #[⟨ "First", 3, 0, false, "", "", 0⟩, ⟨ "Values", 24, 1, false, "", "", 8⟩, ⟨ "Holes", 25, 2, false, "", "", 32⟩], 3, 56, .agg #[.int .i64 0, .slice none 0 0, .slice none 0 0]⟩),
  (23, ⟨.struct #[⟨ "Before", 3, 0, false, "", "", 0⟩, ⟨ "After", 3, 1, false, "", "", 8⟩], 2, 16, .agg #[.int .i64 0, .int .i64 0]⟩),
  (34, ⟨.struct #[⟨ "Before", 3, 0, false, "", "", 0⟩, ⟨ "After", 3, 1, false, "", "", 8⟩], 2, 16, .agg #[.int .i64 0, .int .i64 0]⟩),
  (31, ⟨.int .i64, 1, 8, .int .i64 0⟩),
  (25, ⟨.slice 92, 1, 24, .slice none 0 0⟩),
  (53, ⟨.array 4 52, 4, 64, .agg #[.complex .f64 0 0, .complex .f64 0 0, .complex .f64 0 0, .complex .f64 0 0]⟩),
  (92, ⟨.struct #[⟨ "From", 3, 0, false, "", "", 0⟩, ⟨ "To", 3, 1, false, "", "", 8⟩], 2, 16, .agg #[.int .i64 0, .int .i64 0]⟩),
  (112, ⟨.struct #[⟨ "Trace", 30, 0, true, "", "", 0⟩, ⟨ "known", 93, 3, false, "", "versine/chord", 56⟩], 4, 80, .agg #[.int .i64 0, .slice none 0 0, .slice none 0 0, .slice none 0 0]⟩),
  (93, ⟨.slice 4, 1, 24, .slice none 0 0⟩),
  (136, ⟨.struct #[⟨ "n", 3, 0, false, "", "versine/versineref03", 0⟩, ⟨ "known", 4, 1, false, "", "versine/versineref03", 8⟩], 2, 16, .agg #[.int .i64 0, .bool false]⟩),
  (133, ⟨.slice 136, 1, 24, .slice none 0 0⟩),
  (4, ⟨.bool, 1, 1, .bool false⟩),
  (96, ⟨.array 2 27, 6, 112, .agg #[.int .i64 0, .slice none 0 0, .slice none 0 0, .int .i64 0, .slice none 0 0, .slice none 0 0]⟩),
  (145, ⟨.slice 31, 1, 24, .slice none 0 0⟩),
  (120, ⟨.array 2 3, 2, 16, .agg #[.int .i64 0, .int .i64 0]⟩),
  (64, ⟨.struct #[⟨ "Re", 3, 0, false, "", "", 0⟩, ⟨ "Im", 3, 1, false, "", "", 8⟩], 2, 16, .agg #[.int .i64 0, .int .i64 0]⟩),
  (52, ⟨.complex .f64, 1, 16, .complex .f64 0 0⟩),
  (85, ⟨.float .f64, 1, 8, .float .f64 0⟩),
  (124, ⟨.slice 127, 1, 24, .slice none 0 0⟩),
  (127, ⟨.struct #[⟨ "factor", 3, 0, false, "", "versine/chord", 0⟩, ⟨ "away", 3, 1, false, "", "versine/chord", 8⟩], 2, 16, .agg #[.int .i64 0, .int .i64 0]⟩),
  (86, ⟨.int .i8, 1, 1, .int .i8 0⟩),
  (69, ⟨.array 3 3, 3, 24, .agg #[.int .i64 0, .int .i64 0, .int .i64 0]⟩),
  (65, ⟨.array 4 64, 8, 64, .agg #[.int .i64 0, .int .i64 0, .int .i64 0, .int .i64 0, .int .i64 0, .int .i64 0, .int .i64 0, .int .i64 0]⟩),
  (141, ⟨.array 4 3, 4, 32, .agg #[.int .i64 0, .int .i64 0, .int .i64 0, .int .i64 0]⟩),
  (156, ⟨.slice 9, 1, 24, .slice none 0 0⟩),
  (9, ⟨.string, 1, 16, .string ⟨#[]⟩⟩),
  (87, ⟨.array 4 86, 4, 4, .agg #[.int .i8 0, .int .i8 0, .int .i8 0, .int .i8 0]⟩),
  (163, ⟨.int .u64, 1, 8, .int .u64 0⟩),
  (102, ⟨.array 2 86, 2, 2, .agg #[.int .i8 0, .int .i8 0]⟩),
  (103, ⟨.slice 36, 1, 24, .slice none 0 0⟩),
  (159, ⟨.slice 64, 1, 24, .slice none 0 0⟩),
  (5, ⟨.int .u8, 1, 1, .int .u8 0⟩),
  (158, ⟨.array 4 120, 8, 64, .agg #[.int .i64 0, .int .i64 0, .int .i64 0, .int .i64 0, .int .i64 0, .int .i64 0, .int .i64 0, .int .i64 0]⟩)]
theorem tys_ok : TValid Tryd.prog tys :=
  tvalid_cons (by kernel_rfl) (by kernel_rfl) <|
  tvalid_cons (by kernel_rfl) (by kernel_rfl) <|
  tvalid_cons (by kernel_rfl) (by kernel_rfl) <|
  tvalid_cons (by kernel_rfl) (by kernel_rfl) <|
  tvalid_cons (by kernel_rfl) (by kernel_rfl) <|
  tvalid_cons (by kernel_rfl) (by kernel_rfl) <|
  tvalid_cons (by kernel_rfl) (by kernel_rfl) <|
  tvalid_cons (by kernel_rfl) (by kernel_rfl) <|
  tvalid_cons (by kernel_rfl) (by kernel_rfl) <|
  tvalid_cons (by kernel_rfl) (by kernel_rfl) <|
  tvalid_cons (by kernel_rfl) (by kernel_rfl) <|
  tvalid_cons (by kernel_rfl) (by kernel_rfl) <|
  tvalid_cons (by kernel_rfl) (by kernel_rfl) <|
  tvalid_cons (by kernel_rfl) (by kernel_rfl) <|
  tvalid_cons (by kernel_rfl) (by kernel_rfl) <|
  tvalid_cons (by kernel_rfl) (by kernel_rfl) <|
  tvalid_cons (by kernel_rfl) (by kernel_rfl) <|
  tvalid_cons (by kernel_rfl) (by kernel_rfl) <|
  tvalid_cons (by kernel_rfl) (by kernel_rfl) <|
  tvalid_cons (by kernel_rfl) (by kernel_rfl) <|
  tvalid_cons (by kernel_rfl) (by kernel_rfl) <|
  tvalid_cons (by kernel_rfl) (by kernel_rfl) <|
  tvalid_cons (by kernel_rfl) (by kernel_rfl) <|
  tvalid_cons (by kernel_rfl) (by kernel_rfl) <|
  tvalid_cons (by kernel_rfl) (by kernel_rfl) <|
  tvalid_cons (by kernel_rfl) (by kernel_rfl) <|
  tvalid_cons (by kernel_rfl) (by kernel_rfl) <|
  tvalid_cons (by kernel_rfl) (by kernel_rfl) <|
  tvalid_cons (by kernel_rfl) (by kernel_rfl) <|
  tvalid_cons (by kernel_rfl) (by kernel_rfl) <|
  tvalid_cons (by kernel_rfl) (by kernel_rfl) <|
  tvalid_cons (by kernel_rfl) (by kernel_rfl) <|
  tvalid_cons (by kernel_rfl) (by kernel_rfl) <|
  tvalid_cons (by kernel_rfl) (by kernel_rfl) <|
  tvalid_cons (by kernel_rfl) (by kernel_rfl) <|
  tvalid_cons (by kernel_rfl) (by kernel_rfl) <|
  tvalid_nil _
theorem mixed : Tryd.prog.follows .mixedOrders = true := by kernel_rfl

end Go.Proofs.YtbpffadffbgloaaDoor
