/- The calls of awake, run. -/
import Derived.Test.YtbpffadffbgloaaGreatDoorR
set_option linter.unusedVariables false
set_option linter.unusedSimpArgs false
namespace Go.Proofs.YtbpffadffbgloaaGreatDoor
open Go.RowKit Go.Sym
set_option maxRecDepth 100000

/-- The package's table of powers. -/
abbrev powC : Chunk := .rb 213 [i64 1, i64 0, i64 0, i64 1, i64 (-1), i64 0, i64 0, i64 (-1)]
abbrev powG : List (Nat × Nat) := [(0, 0)]
def aw0 : Inst := { f := 41, gl := powG, hin := [(0, powC), (1, Chunk.ro 6 1 (Cont.exp [i64 0, i64 1, i64 4, i64 9, i64 16, i64 25]))], args := [AV.agg [i64 1, i64 2], AV.agg [i64 10, AV.sl 1 6, AV.lit (Value.slice none 0 0)]], hout := [(7, Chunk.row 3 3 1 (Cont.exp [i64 (-6), i64 (-6), i64 (-6)])), (8, Chunk.row 102 0 2 (Cont.exp []))], ret := AV.tup [AV.agg [i64 11, AV.sl 7 3, AV.sl 8 0], i64 0], σ := [(0, some 0), (1, some 1)] }
theorem aw0_ok : aw0.ok Tryz.prog := ran 300 (f := aw0.f) (args := aw0.args) (gl := aw0.gl) (H := aw0.hin) (by kernel_rfl)
def aw1 : Inst := { f := 41, gl := powG, hin := [(0, powC), (1, Chunk.ro 1 2 (Cont.exp [i64 2, i64 3])), (2, Chunk.ro 6 1 (Cont.exp [i64 0, i64 1, i64 0, i64 9, i64 16, i64 25]))], args := [AV.agg [i64 1, i64 2], AV.agg [i64 10, AV.sl 2 6, AV.sl 1 1]], hout := [(8, Chunk.row 3 3 1 (Cont.exp [i64 (-6), i64 0, i64 0])), (9, Chunk.row 102 1 2 (Cont.exp [i64 1, i64 3]))], ret := AV.tup [AV.agg [i64 11, AV.sl 8 3, AV.sl 9 1], i64 0], σ := [(0, some 0), (1, some 1), (2, some 2)] }
theorem aw1_ok : aw1.ok Tryz.prog := ran 300 (f := aw1.f) (args := aw1.args) (gl := aw1.gl) (H := aw1.hin) (by kernel_rfl)
def aw2 : Inst := { f := 43, gl := powG, hin := [(0, powC), (1, Chunk.ro 6 1 (Cont.exp [i64 0, i64 1, i64 4, i64 9, i64 16, i64 25]))], args := [AV.agg [i64 10, AV.sl 1 6, AV.lit (Value.slice none 0 0)]], hout := [(4, Chunk.row 3 4 1 (Cont.exp [i64 (-2), i64 (-2), i64 (-2), i64 (-2)])), (5, Chunk.row 102 0 2 (Cont.exp []))], ret := AV.tup [AV.agg [i64 11, AV.sl 4 4, AV.sl 5 0], i64 0], σ := [(0, some 0), (1, some 1)] }
theorem aw2_ok : aw2.ok Tryz.prog := ran 300 (f := aw2.f) (args := aw2.args) (gl := aw2.gl) (H := aw2.hin) (by kernel_rfl)
def aw3 : Inst := { f := 44, gl := powG, hin := [(0, powC)], args := [AV.agg [i64 1, i64 2]], hout := [(2, Chunk.row 3 2 1 (Cont.exp [i64 2, i64 1]))], ret := AV.tup [AV.sl 2 2, i64 0], σ := [(0, some 0)] }
theorem aw3_ok : aw3.ok Tryz.prog := ran 300 (f := aw3.f) (args := aw3.args) (gl := aw3.gl) (H := aw3.hin) (by kernel_rfl)
def aw4 : Inst := { f := 45, gl := powG, hin := [(0, powC), (1, Chunk.ro 0 2 (Cont.exp [])), (2, Chunk.ro 4 1 (Cont.exp [i64 (-2), i64 (-2), i64 (-2), i64 (-2)]))], args := [AV.agg [i64 1, i64 2], AV.agg [i64 11, AV.sl 2 4, AV.sl 1 0]], hout := [(7, Chunk.row 3 3 1 (Cont.exp [i64 (-6), i64 (-6), i64 (-6)])), (8, Chunk.row 102 0 2 (Cont.exp []))], ret := AV.tup [AV.agg [i64 11, AV.sl 7 3, AV.sl 8 0], i64 0], σ := [(0, some 0), (1, some 1), (2, some 2)] }
theorem aw4_ok : aw4.ok Tryz.prog := ran 300 (f := aw4.f) (args := aw4.args) (gl := aw4.gl) (H := aw4.hin) (by kernel_rfl)
def aw5 : Inst := { f := 46, gl := powG, hin := [(0, powC), (1, Chunk.ro 0 2 (Cont.exp [])), (2, Chunk.ro 4 1 (Cont.exp [i64 (-2), i64 (-2), i64 (-2), i64 (-2)]))], args := [AV.agg [i64 2, i64 2], i64 1, AV.agg [i64 11, AV.sl 2 4, AV.sl 1 0]], hout := [(7, Chunk.row 3 2 1 (Cont.exp [i64 (-16), i64 (-16)])), (8, Chunk.row 102 0 2 (Cont.exp []))], ret := AV.tup [AV.agg [i64 12, AV.sl 7 2, AV.sl 8 0], i64 0], σ := [(0, some 0), (1, some 1), (2, some 2)] }
theorem aw5_ok : aw5.ok Tryz.prog := ran 300 (f := aw5.f) (args := aw5.args) (gl := aw5.gl) (H := aw5.hin) (by kernel_rfl)
def aw6 : Inst := { f := 46, gl := powG, hin := [(0, powC), (1, Chunk.ro 0 2 (Cont.exp [])), (2, Chunk.ro 4 1 (Cont.exp [i64 (-2), i64 (-2), i64 (-2), i64 (-2)]))], args := [AV.agg [i64 1, i64 1], i64 1, AV.agg [i64 11, AV.sl 2 4, AV.sl 1 0]], hout := [(7, Chunk.row 3 4 1 (Cont.exp [i64 (-2), i64 (-2), i64 (-2), i64 (-2)])), (8, Chunk.row 102 0 2 (Cont.exp []))], ret := AV.tup [AV.agg [i64 11, AV.sl 7 4, AV.sl 8 0], i64 0], σ := [(0, some 0), (1, some 1), (2, some 2)] }
theorem aw6_ok : aw6.ok Tryz.prog := ran 300 (f := aw6.f) (args := aw6.args) (gl := aw6.gl) (H := aw6.hin) (by kernel_rfl)
def aw7 : Inst := { f := 52, gl := powG, hin := [(0, powC)], args := [AV.agg [i64 1, i64 1]], hout := [], ret := AV.tup [AV.agg [AV.lit (Value.complex FloatKind.f64 0 0), AV.lit (Value.complex FloatKind.f64 4611686018427387904 0), AV.lit (Value.complex FloatKind.f64 4616189618054758400 0), AV.lit (Value.complex FloatKind.f64 4611686018427387904 0)], i64 0], σ := [(0, some 0)] }
theorem aw7_ok : aw7.ok Tryz.prog := ran 300 (f := aw7.f) (args := aw7.args) (gl := aw7.gl) (H := aw7.hin) (by kernel_rfl)
def aw8 : Inst := { f := 52, gl := powG, hin := [(0, powC)], args := [AV.agg [i64 1, i64 2]], hout := [], ret := AV.tup [AV.agg [AV.lit (Value.complex FloatKind.f64 0 0), AV.lit (Value.complex FloatKind.f64 4616189618054758400 4611686018427387904), AV.lit (Value.complex FloatKind.f64 4616189618054758400 0), AV.lit (Value.complex FloatKind.f64 4616189618054758400 13835058055282163712)], i64 0], σ := [(0, some 0)] }
theorem aw8_ok : aw8.ok Tryz.prog := ran 300 (f := aw8.f) (args := aw8.args) (gl := aw8.gl) (H := aw8.hin) (by kernel_rfl)
def aw9 : Inst := { f := 49, gl := powG, hin := [(0, powC)], args := [AV.agg [i64 6, i64 12]], hout := [(3, Chunk.row 3 3 1 (Cont.exp [i64 2, i64 3, i64 6]))], ret := AV.tup [AV.sl 3 3, i64 0], σ := [(0, some 0)] }
theorem aw9_ok : aw9.ok Tryz.prog := ran 300 (f := aw9.f) (args := aw9.args) (gl := aw9.gl) (H := aw9.hin) (by kernel_rfl)
def aw10 : Inst := { f := 50, gl := powG, hin := [(0, powC)], args := [AV.agg [i64 4, i64 6], AV.agg [i64 6, i64 12]], hout := [(5, Chunk.row 3 1 1 (Cont.exp [i64 2]))], ret := AV.tup [AV.sl 5 1, i64 0], σ := [(0, some 0)] }
theorem aw10_ok : aw10.ok Tryz.prog := ran 300 (f := aw10.f) (args := aw10.args) (gl := aw10.gl) (H := aw10.hin) (by kernel_rfl)
def aw11 : Inst := { f := 51, gl := powG, hin := [(0, powC), (1, Chunk.ro 2 1 (Cont.exp [i64 1, i64 (-1)]))], args := [AV.agg [i64 4, i64 6], AV.sl 1 2], hout := [], ret := AV.tup [AV.lit (Value.bool false), i64 0], σ := [(0, some 0), (1, some 1)] }
theorem aw11_ok : aw11.ok Tryz.prog := ran 300 (f := aw11.f) (args := aw11.args) (gl := aw11.gl) (H := aw11.hin) (by kernel_rfl)
def aw12 : Inst := { f := 51, gl := powG, hin := [(0, powC), (1, Chunk.ro 3 1 (Cont.exp [i64 1, i64 0, i64 0]))], args := [AV.agg [i64 4, i64 6], AV.sl 1 3], hout := [], ret := AV.tup [AV.lit (Value.bool true), i64 0], σ := [(0, some 0), (1, some 1)] }
theorem aw12_ok : aw12.ok Tryz.prog := ran 300 (f := aw12.f) (args := aw12.args) (gl := aw12.gl) (H := aw12.hin) (by kernel_rfl)
def aw13 : Inst := { f := 53, gl := powG, hin := [(0, powC), (1, Chunk.ro 6 1 (Cont.exp [i64 0, i64 1, i64 4, i64 9, i64 16, i64 25]))], args := [AV.agg [i64 10, AV.sl 1 6, AV.lit (Value.slice none 0 0)], i64 1], hout := [(7, Chunk.row 3 4 1 (Cont.exp [i64 5, i64 14, i64 29, i64 50])), (8, Chunk.row 102 0 2 (Cont.exp []))], ret := AV.tup [AV.agg [i64 11, AV.sl 7 4, AV.sl 8 0], i64 0], σ := [(0, some 0), (1, some 1)] }
theorem aw13_ok : aw13.ok Tryz.prog := ran 300 (f := aw13.f) (args := aw13.args) (gl := aw13.gl) (H := aw13.hin) (by kernel_rfl)
def aw14 : Inst := { f := 54, gl := powG, hin := [(0, powC), (1, Chunk.ro 6 1 (Cont.exp [i64 0, i64 1, i64 4, i64 9, i64 16, i64 25]))], args := [AV.agg [i64 10, AV.sl 1 6, AV.lit (Value.slice none 0 0)], i64 0, i64 1], hout := [(9, Chunk.row 3 4 1 (Cont.exp [i64 (-2), i64 (-2), i64 (-2), i64 (-2)])), (10, Chunk.row 102 0 2 (Cont.exp []))], ret := AV.tup [AV.agg [i64 11, AV.sl 9 4, AV.sl 10 0], i64 0], σ := [(0, some 0), (1, some 1)] }
theorem aw14_ok : aw14.ok Tryz.prog := ran 300 (f := aw14.f) (args := aw14.args) (gl := aw14.gl) (H := aw14.hin) (by kernel_rfl)
def aw15 : Inst := { f := 12, gl := powG, hin := [(0, powC), (1, Chunk.ro 6 1 (Cont.exp [i64 0, i64 1, i64 4, i64 9, i64 16, i64 25]))], args := [AV.agg [i64 10, AV.sl 1 6, AV.lit (Value.slice none 0 0)], i64 10], hout := [], ret := AV.tup [AV.agg [AV.lit (Value.complex FloatKind.f64 4624070917402656768 0), AV.lit (Value.complex FloatKind.f64 13839561654909534208 4620693217682128896), AV.lit (Value.complex FloatKind.f64 13841813454723219456 0), AV.lit (Value.complex FloatKind.f64 13839561654909534208 13844065254536904704)], i64 0], σ := [(0, some 0), (1, some 1)] }
theorem aw15_ok : aw15.ok Tryz.prog := ran 300 (f := aw15.f) (args := aw15.args) (gl := aw15.gl) (H := aw15.hin) (by kernel_rfl)
def aw16 : Inst := { f := 22, gl := powG, hin := [(0, powC), (1, Chunk.ro 3 1 (Cont.exp [i64 0, i64 1, i64 4])), (2, Chunk.ro 3 1 (Cont.exp [i64 (-6), i64 (-6), i64 (-6)]))], args := [AV.agg [i64 1, i64 2], AV.agg [i64 11, AV.sl 2 3, AV.lit (Value.slice none 0 0)], AV.sl 1 3], hout := [(24, Chunk.row 3 6 1 (Cont.exp [i64 0, i64 1, i64 4, i64 9, i64 16, i64 25]))], ret := AV.tup [AV.agg [i64 10, AV.sl 24 6, AV.lit (Value.slice none 0 0)], i64 0], σ := [(0, some 0), (1, some 1), (2, some 2)] }
theorem aw16_ok : aw16.ok Tryz.prog := ran 300 (f := aw16.f) (args := aw16.args) (gl := aw16.gl) (H := aw16.hin) (by kernel_rfl)
def aw17 : Inst := { f := 22, gl := powG, hin := [(0, powC), (1, Chunk.ro 3 1 (Cont.exp [i64 0, i64 1, i64 4])), (2, Chunk.ro 1 2 (Cont.exp [i64 1, i64 2])), (3, Chunk.ro 3 1 (Cont.exp [i64 (-6), i64 0, i64 (-6)]))], args := [AV.agg [i64 1, i64 2], AV.agg [i64 11, AV.sl 3 3, AV.sl 2 1], AV.sl 1 3], hout := [(26, Chunk.row 3 6 1 (Cont.exp [i64 0, i64 1, i64 4, i64 9, i64 0, i64 25])), (22, Chunk.row 102 1 2 (Cont.exp [i64 4, i64 5]))], ret := AV.tup [AV.agg [i64 10, AV.sl 26 6, AV.sl 22 1], i64 0], σ := [(0, some 0), (1, some 1), (2, some 2), (3, some 3)] }
theorem aw17_ok : aw17.ok Tryz.prog := ran 300 (f := aw17.f) (args := aw17.args) (gl := aw17.gl) (H := aw17.hin) (by kernel_rfl)
def aw18 : Inst := { f := 34, gl := powG, hin := [(0, powC), (1, Chunk.ro 6 1 (Cont.exp [i64 0, i64 1, i64 4, i64 9, i64 16, i64 25]))], args := [AV.agg [i64 10, AV.sl 1 6, AV.lit (Value.slice none 0 0)]], hout := [], ret := AV.tup [AV.lit (Value.string ⟨⟨[116, 114, 97, 99, 101, 32, 49, 48, 32, 54, 10, 118, 97, 108, 117, 101, 32, 48, 10, 118, 97, 108, 117, 101, 32, 49, 10, 118, 97, 108, 117, 101, 32, 52, 10, 118, 97, 108, 117, 101, 32, 57, 10, 118, 97, 108, 117, 101, 32, 49, 54, 10, 118, 97, 108, 117, 101, 32, 50, 53, 10]⟩⟩), i64 0], σ := [(0, some 0), (1, some 1)] }
theorem aw18_ok : aw18.ok Tryz.prog := ran 300 (f := aw18.f) (args := aw18.args) (gl := aw18.gl) (H := aw18.hin) (by kernel_rfl)
def aws : List Inst := [aw0, aw1, aw2, aw3, aw4, aw5, aw6, aw7, aw8, aw9, aw10, aw11, aw12, aw13, aw14, aw15, aw16, aw17, aw18]
theorem aws_ok : ∀ J ∈ aws, J.ok Tryz.prog := by
  intro J hJ
  simp only [aws, List.mem_cons, List.not_mem_nil, or_false] at hJ
  rcases hJ with rfl | rfl | rfl | rfl | rfl | rfl | rfl | rfl | rfl | rfl | rfl | rfl | rfl | rfl | rfl | rfl | rfl | rfl | rfl
  · exact aw0_ok
  · exact aw1_ok
  · exact aw2_ok
  · exact aw3_ok
  · exact aw4_ok
  · exact aw5_ok
  · exact aw6_ok
  · exact aw7_ok
  · exact aw8_ok
  · exact aw9_ok
  · exact aw10_ok
  · exact aw11_ok
  · exact aw12_ok
  · exact aw13_ok
  · exact aw14_ok
  · exact aw15_ok
  · exact aw16_ok
  · exact aw17_ok
  · exact aw18_ok
def known2 (f : FuncId) (args : List AV) (gl : List (Nat × Nat)) (H : List (Nat × Chunk)) : Option Inst := match memo aws f args gl H with | some I => some I | none => knownC f args gl H
theorem known2_ok {f : FuncId} {args : List AV} {gl : List (Nat × Nat)} {H : List (Nat × Chunk)} {I : Inst} (h : known2 f args gl H = some I) : I.ok Tryz.prog := by
  unfold known2 at h
  split at h
  · rename_i h1; cases h; exact memo_ok aws_ok h1
  · exact knownC_ok h
noncomputable def stat2 : RStat := { stat with known := known2 }
theorem stat2_ok : stat2.ok := ⟨tys_ok, mixed, fun _ _ gl _ _ h => known2_ok (gl := gl) h, custV_ok _⟩
def Awake_i (σ : Ren) : Inst := { f := 9, gl := powG, hin := [(0, powC)], args := [], hout := [], ret := bl true, σ := σ }
theorem awake_ok : (Awake_i [(0, some 0)]).ok Tryz.prog := callI_ok stat2_ok (exec_sound stat2_ok 300) 9 [] powG [(0, powC)] _ (by kernel_rfl)
theorem Awake_s (σ : Ren) : (Awake_i σ).ok Tryz.prog := awake_ok

end Go.Proofs.YtbpffadffbgloaaGreatDoor
