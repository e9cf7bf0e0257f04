/- awake of chapter 9 gives true: printed by a program. -/
import Derived.Test.YtlhgddgoblliaaaGreatDoorB9
import Derived.Test.YtlhgddgoblliaaaGreatDoorE9
set_option linter.unusedVariables false
set_option linter.unusedSimpArgs false
namespace Go.Proofs.YtlhgddgoblliaaaGreatDoor
open Go.RowKit Go.Sym

def a9awake : Inst := { f := 8, gl := [(0, 1), (4, 0)], hin := [(0, Chunk.rb 271 [AV.lit (Value.int IntKind.u64 (Int.ofNat 1)), AV.lit (Value.int IntKind.u64 (Int.ofNat 10)), AV.lit (Value.int IntKind.u64 (Int.ofNat 100)), AV.lit (Value.int IntKind.u64 (Int.ofNat 1000)), AV.lit (Value.int IntKind.u64 (Int.ofNat 10000)), AV.lit (Value.int IntKind.u64 (Int.ofNat 100000)), AV.lit (Value.int IntKind.u64 (Int.ofNat 1000000)), AV.lit (Value.int IntKind.u64 (Int.ofNat 10000000)), AV.lit (Value.int IntKind.u64 (Int.ofNat 100000000)), AV.lit (Value.int IntKind.u64 (Int.ofNat 1000000000)), AV.lit (Value.int IntKind.u64 (Int.ofNat 10000000000)), AV.lit (Value.int IntKind.u64 (Int.ofNat 100000000000)), AV.lit (Value.int IntKind.u64 (Int.ofNat 1000000000000)), AV.lit (Value.int IntKind.u64 (Int.ofNat 10000000000000)), AV.lit (Value.int IntKind.u64 (Int.ofNat 100000000000000)), AV.lit (Value.int IntKind.u64 (Int.ofNat 1000000000000000)), AV.lit (Value.int IntKind.u64 (Int.ofNat 10000000000000000)), AV.lit (Value.int IntKind.u64 (Int.ofNat 100000000000000000)), AV.lit (Value.int IntKind.u64 (Int.ofNat 1000000000000000000)), AV.lit (Value.int IntKind.u64 (Int.ofNat 10000000000000000000))]), (1, Chunk.rb 145 [AV.lit (Value.string ⟨⟨[116, 97, 109, 112]⟩⟩), AV.lit (Value.string ⟨⟨[103, 114, 105, 110, 100]⟩⟩), AV.lit (Value.string ⟨⟨[119, 101, 108, 100]⟩⟩)])], args := [], hout := [], ret := AV.lit (Value.bool true), σ := [(0, some 1), (1, some 0)] }
theorem a9awake_ok : a9awake.ok Tryz.prog := chkI_ok (statM_ok (l := [a9office, a9band, a9site, a9e1, a9e2, a9e3, a9e4, a9e5, a9e6, a9e7, a9e8, a9e9, a9e10, a9e11, a9e12, a9e13, a9e14, a9e15, a9e16, a9e17, a9e18]) (okC a9office_ok (okC a9band_ok (okC a9site_ok (okC a9e1_ok (okC a9e2_ok (okC a9e3_ok (okC a9e4_ok (okC a9e5_ok (okC a9e6_ok (okC a9e7_ok (okC a9e8_ok (okC a9e9_ok (okC a9e10_ok (okC a9e11_ok (okC a9e12_ok (okC a9e13_ok (okC a9e14_ok (okC a9e15_ok (okC a9e16_ok (okC a9e17_ok (okC a9e18_ok okN)))))))))))))))))))))) (n := 300) (I := a9awake) (by kernel_rfl)

end Go.Proofs.YtlhgddgoblliaaaGreatDoor
