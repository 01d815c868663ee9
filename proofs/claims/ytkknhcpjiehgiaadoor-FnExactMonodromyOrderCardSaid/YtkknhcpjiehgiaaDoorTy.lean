/- The seat's own facts on types and functions, as instances of the walk's classes. By program. -/
import Derived.Test.YtkknhcpjiehgiaaDoorWB
import Derived.Test.YtkknhcpjiehgiaaDoorRows
namespace Go.Proofs.YtkknhcpjiehgiaaDoor
open Go.Mem
instance : CellTy Tryd.prog 2 (.int .i64 0) 8 := ⟨info_parts (by kernel_rfl), Tryd.isAgg2, rfl, by decide⟩
instance : CellTy Tryd.prog 3 (.int .i64 0) 8 := ⟨info_parts (by kernel_rfl), Tryd.isAgg3, rfl, by decide⟩
instance : CellTy Tryd.prog 4 (.bool false) 1 := ⟨info_parts (by kernel_rfl), Tryd.isAgg4, rfl, by decide⟩
instance : CellTy Tryd.prog 5 (.int .u8 0) 1 := ⟨info_parts (by kernel_rfl), Tryd.isAgg5, rfl, by decide⟩
instance : CellTy Tryd.prog 81 (.int .u64 0) 8 := ⟨info_parts (by kernel_rfl), Tryd.isAgg81, rfl, by decide⟩
instance : IntTy Tryd.prog 2 .i64 := ⟨Tryd.underlying2⟩
instance : IntTy Tryd.prog 3 .i64 := ⟨Tryd.underlying3⟩
instance : IntTy Tryd.prog 66 .u64 := ⟨Tryd.underlying66⟩
instance : IntTy Tryd.prog 81 .u64 := ⟨Tryd.underlying81⟩
instance : IntTy Tryd.prog 79 .u32 := ⟨Tryd.underlying79⟩
instance : IntTy Tryd.prog 5 .u8 := ⟨Tryd.underlying5⟩
instance : IntTy Tryd.prog 21 .i32 := ⟨Tryd.underlying21⟩
instance : BoolTy Tryd.prog 4 := ⟨Tryd.underlying4⟩
instance : SliceTy Tryd.prog 22 40 := ⟨Tryd.underlying22⟩
instance : CellTy Tryd.prog 22 (.slice none 0 0) 24 := ⟨info_parts (by kernel_rfl), Tryd.isAgg22, rfl, by decide⟩
instance : ZeroBox Tryd.prog 24 := ⟨fun _ => by kernel_rfl⟩
instance : BoxTy Tryd.prog 24 := ⟨fun _ _ => by kernel_rfl, Tryd.isAgg24, Tryd.sizeOf24⟩
instance : ZeroBox Tryd.prog 28 := ⟨fun _ => by kernel_rfl⟩
instance : BoxTy Tryd.prog 28 := ⟨fun _ _ => by kernel_rfl, Tryd.isAgg28, Tryd.sizeOf28⟩
instance : SliceTy Tryd.prog 40 2 := ⟨Tryd.underlying40⟩
instance : CellTy Tryd.prog 40 (.slice none 0 0) 24 := ⟨info_parts (by kernel_rfl), Tryd.isAgg40, rfl, by decide⟩
instance : SliceTy Tryd.prog 60 4 := ⟨Tryd.underlying60⟩
instance : CellTy Tryd.prog 60 (.slice none 0 0) 24 := ⟨info_parts (by kernel_rfl), Tryd.isAgg60, rfl, by decide⟩
instance : SliceTy Tryd.prog 62 5 := ⟨Tryd.underlying62⟩
instance : CellTy Tryd.prog 62 (.slice none 0 0) 24 := ⟨info_parts (by kernel_rfl), Tryd.isAgg62, rfl, by decide⟩
instance : FunTy Tryd.prog 3 := FunTy.of Tryd.func3 (by kernel_rfl) rfl -- loop.example/g01108/laws.FnExactMonodromyOrder
instance : FunTy Tryd.prog 4 := FunTy.of Tryd.func4 (by kernel_rfl) rfl -- loop.example/g01108/laws.szManiplex
instance : FunTy Tryd.prog 5 := FunTy.of Tryd.func5 (by kernel_rfl) rfl -- loop.example/g01108/spec.MonodromyOrder
instance : FunTy Tryd.prog 6 := FunTy.of Tryd.func6 (by kernel_rfl) rfl -- loop.example/g01108/laws.toManiplex
instance : FunTy Tryd.prog 7 := FunTy.of Tryd.func7 (by kernel_rfl) rfl -- loop.example/g01108/impl.MonodromyOrder
instance : FunTy Tryd.prog 8 := FunTy.of Tryd.func8 (by kernel_rfl) rfl -- loop.example/g01108/laws.eqManiplex
instance : FunTy Tryd.prog 9 := FunTy.of Tryd.func9 (by kernel_rfl) rfl -- loop.example/g01108/laws.szInt64SS
instance : FunTy Tryd.prog 10 := FunTy.of Tryd.func10 (by kernel_rfl) rfl -- loop.example/g01108/spec.l02Is
instance : FunTy Tryd.prog 11 := FunTy.of Tryd.func11 (by kernel_rfl) rfl -- loop.example/g01108/spec.l01Group
instance : FunTy Tryd.prog 12 := FunTy.of Tryd.func12 (by kernel_rfl) rfl -- loop.example/g01108/spec.l02Flags
instance : FunTy Tryd.prog 13 := FunTy.of Tryd.func13 (by kernel_rfl) rfl -- loop.example/g01108/laws.toInt64SS
instance : FunTy Tryd.prog 14 := FunTy.of Tryd.func14 (by kernel_rfl) rfl -- loop.example/g01108/impl.isManiplex
instance : FunTy Tryd.prog 15 := FunTy.of Tryd.func15 (by kernel_rfl) rfl -- loop.example/g01108/impl.groupElements
instance : FunTy Tryd.prog 16 := FunTy.of Tryd.func16 (by kernel_rfl) rfl -- (*loop.example/g01108/impl.Maniplex).flags
instance : FunTy Tryd.prog 17 := FunTy.of Tryd.func17 (by kernel_rfl) rfl -- loop.example/g01108/impl.size[[]int64]
instance : FunTy Tryd.prog 18 := FunTy.of Tryd.func18 (by kernel_rfl) rfl -- loop.example/g01108/laws.eqInt64SS
instance : FunTy Tryd.prog 19 := FunTy.of Tryd.func19 (by kernel_rfl) rfl -- loop.example/g01108/laws.szInt64S
instance : FunTy Tryd.prog 20 := FunTy.of Tryd.func20 (by kernel_rfl) rfl -- loop.example/g01108/spec.l01Perm
instance : FunTy Tryd.prog 21 := FunTy.of Tryd.func21 (by kernel_rfl) rfl -- loop.example/g01108/spec.l01Free
instance : FunTy Tryd.prog 22 := FunTy.of Tryd.func22 (by kernel_rfl) rfl -- loop.example/g01108/spec.l01Orbit
instance : FunTy Tryd.prog 23 := FunTy.of Tryd.func23 (by kernel_rfl) rfl -- loop.example/g01108/spec.l01Unit
instance : FunTy Tryd.prog 24 := FunTy.of Tryd.func24 (by kernel_rfl) rfl -- loop.example/g01108/spec.l01Then
instance : FunTy Tryd.prog 25 := FunTy.of Tryd.func25 (by kernel_rfl) rfl -- loop.example/g01108/spec.l01Put
instance : FunTy Tryd.prog 26 := FunTy.of Tryd.func26 (by kernel_rfl) rfl -- loop.example/g01108/spec.l01Own2
instance : FunTy Tryd.prog 27 := FunTy.of Tryd.func27 (by kernel_rfl) rfl -- loop.example/g01108/laws.toInt64S
instance : FunTy Tryd.prog 28 := FunTy.of Tryd.func28 (by kernel_rfl) rfl -- loop.example/g01108/impl.within
instance : FunTy Tryd.prog 29 := FunTy.of Tryd.func29 (by kernel_rfl) rfl -- (*loop.example/g01108/impl.Maniplex).rank
instance : FunTy Tryd.prog 30 := FunTy.of Tryd.func30 (by kernel_rfl) rfl -- loop.example/g01108/impl.isFreeInvolution
instance : FunTy Tryd.prog 31 := FunTy.of Tryd.func31 (by kernel_rfl) rfl -- loop.example/g01108/impl.size[int64]
instance : FunTy Tryd.prog 32 := FunTy.of Tryd.func32 (by kernel_rfl) rfl -- loop.example/g01108/impl.orbitLabels
instance : FunTy Tryd.prog 33 := FunTy.of Tryd.func33 (by kernel_rfl) rfl -- loop.example/g01108/impl.identity
instance : FunTy Tryd.prog 34 := FunTy.of Tryd.func34 (by kernel_rfl) rfl -- loop.example/g01108/impl.keyOf
instance : FunTy Tryd.prog 35 := FunTy.of Tryd.func35 (by kernel_rfl) rfl -- loop.example/g01108/impl.then
instance : FunTy Tryd.prog 36 := FunTy.of Tryd.func36 (by kernel_rfl) rfl -- slices.SortFunc[[][]int64,[]int64]
instance : FunTy Tryd.prog 37 := FunTy.of Tryd.func37 (by kernel_rfl) rfl -- slices.Compare[[]int64,int64]
instance : FunTy Tryd.prog 38 := FunTy.of Tryd.func38 (by kernel_rfl) rfl -- loop.example/g01108/laws.eqInt64S
instance : FunTy Tryd.prog 39 := FunTy.of Tryd.func39 (by kernel_rfl) rfl -- loop.example/g01108/spec.l01In
instance : FunTy Tryd.prog 40 := FunTy.of Tryd.func40 (by kernel_rfl) rfl -- loop.example/g01108/spec.l01Less
instance : FunTy Tryd.prog 41 := FunTy.of Tryd.func41 (by kernel_rfl) rfl -- loop.example/g01108/spec.l01Same
instance : FunTy Tryd.prog 42 := FunTy.of Tryd.func42 (by kernel_rfl) rfl -- loop.example/g01108/spec.l01Own
instance : FunTy Tryd.prog 43 := FunTy.of Tryd.func43 (by kernel_rfl) rfl -- loop.example/g01108/impl.isPermutation
instance : FunTy Tryd.prog 44 := FunTy.of Tryd.func44 (by kernel_rfl) rfl -- slices.Repeat[[]int64,int64]
instance : FunTy Tryd.prog 45 := FunTy.of Tryd.func45 (by kernel_rfl) rfl -- strconv.AppendInt
instance : FunTy Tryd.prog 46 := FunTy.of Tryd.func46 (by kernel_rfl) rfl -- slices.pdqsortCmpFunc[[]int64]
instance : FunTy Tryd.prog 47 := FunTy.of Tryd.func47 (by kernel_rfl) rfl -- math/bits.Len
instance : FunTy Tryd.prog 48 := FunTy.of Tryd.func48 (by kernel_rfl) rfl -- cmp.Compare[int64]
instance : FunTy Tryd.prog 49 := FunTy.of Tryd.func49 (by kernel_rfl) rfl -- math/bits.Mul
instance : FunTy Tryd.prog 51 := FunTy.of Tryd.func51 (by kernel_rfl) rfl -- slices.insertionSortCmpFunc[[]int64]
instance : FunTy Tryd.prog 52 := FunTy.of Tryd.func52 (by kernel_rfl) rfl -- slices.heapSortCmpFunc[[]int64]
instance : FunTy Tryd.prog 53 := FunTy.of Tryd.func53 (by kernel_rfl) rfl -- slices.breakPatternsCmpFunc[[]int64]
instance : FunTy Tryd.prog 54 := FunTy.of Tryd.func54 (by kernel_rfl) rfl -- slices.choosePivotCmpFunc[[]int64]
instance : FunTy Tryd.prog 55 := FunTy.of Tryd.func55 (by kernel_rfl) rfl -- slices.reverseRangeCmpFunc[[]int64]
instance : FunTy Tryd.prog 56 := FunTy.of Tryd.func56 (by kernel_rfl) rfl -- slices.partialInsertionSortCmpFunc[[]int64]
instance : FunTy Tryd.prog 57 := FunTy.of Tryd.func57 (by kernel_rfl) rfl -- slices.partitionEqualCmpFunc[[]int64]
instance : FunTy Tryd.prog 58 := FunTy.of Tryd.func58 (by kernel_rfl) rfl -- slices.partitionCmpFunc[[]int64]
instance : FunTy Tryd.prog 59 := FunTy.of Tryd.func59 (by kernel_rfl) rfl -- math/bits.Len32
instance : FunTy Tryd.prog 60 := FunTy.of Tryd.func60 (by kernel_rfl) rfl -- math/bits.Len64
instance : FunTy Tryd.prog 61 := FunTy.of Tryd.func61 (by kernel_rfl) rfl -- cmp.isNaN[int64]
instance : FunTy Tryd.prog 62 := FunTy.of Tryd.func62 (by kernel_rfl) rfl -- math/bits.Mul32
instance : FunTy Tryd.prog 63 := FunTy.of Tryd.func63 (by kernel_rfl) rfl -- math/bits.Mul64
instance : FunTy Tryd.prog 65 := FunTy.of Tryd.func65 (by kernel_rfl) rfl -- slices.siftDownCmpFunc[[]int64]
instance : FunTy Tryd.prog 66 := FunTy.of Tryd.func66 (by kernel_rfl) rfl -- slices.nextPowerOfTwo
instance : FunTy Tryd.prog 67 := FunTy.of Tryd.func67 (by kernel_rfl) rfl -- (*slices.xorshift).Next
instance : FunTy Tryd.prog 68 := FunTy.of Tryd.func68 (by kernel_rfl) rfl -- slices.medianAdjacentCmpFunc[[]int64]
instance : FunTy Tryd.prog 69 := FunTy.of Tryd.func69 (by kernel_rfl) rfl -- slices.medianCmpFunc[[]int64]
instance : FunTy Tryd.prog 74 := FunTy.of Tryd.func74 (by kernel_rfl) rfl -- slices.order2CmpFunc[[]int64]
instance : FunTy Tryd.prog 78 := FunTy.of Tryd.func78 (by kernel_rfl) rfl -- math/bits.TrailingZeros
instance : FunTy Tryd.prog 79 := FunTy.of Tryd.func79 (by kernel_rfl) rfl -- math/bits.TrailingZeros32
instance : FunTy Tryd.prog 80 := FunTy.of Tryd.func80 (by kernel_rfl) rfl -- math/bits.TrailingZeros64
theorem mixed : Tryd.prog.follows .mixedOrders = true := by kernel_rfl
end Go.Proofs.YtkknhcpjiehgiaaDoor
