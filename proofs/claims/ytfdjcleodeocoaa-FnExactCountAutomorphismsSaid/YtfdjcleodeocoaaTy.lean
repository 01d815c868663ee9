/- The seat's own facts on types and functions, as instances of the walk's classes. By program. -/
import Derived.Test.YtfdjcleodeocoaaBv
import Derived.Test.YtfdjcleodeocoaaRows
namespace Go.Proofs.Ytfdjcleodeocoaa
open Go.Mem
instance : CellTy Try.prog 2 (.int .i64 0) 8 := ⟨info_parts (by kernel_rfl), Try.isAgg2, rfl, by decide⟩
instance : CellTy Try.prog 3 (.int .i64 0) 8 := ⟨info_parts (by kernel_rfl), Try.isAgg3, rfl, by decide⟩
instance : CellTy Try.prog 4 (.bool false) 1 := ⟨info_parts (by kernel_rfl), Try.isAgg4, rfl, by decide⟩
instance : CellTy Try.prog 5 (.int .u8 0) 1 := ⟨info_parts (by kernel_rfl), Try.isAgg5, rfl, by decide⟩
instance : IntTy Try.prog 2 .i64 := ⟨Try.underlying2⟩
instance : IntTy Try.prog 3 .i64 := ⟨Try.underlying3⟩
instance : IntTy Try.prog 79 .u64 := ⟨Try.underlying79⟩
instance : IntTy Try.prog 86 .u64 := ⟨Try.underlying86⟩
instance : IntTy Try.prog 83 .u32 := ⟨Try.underlying83⟩
instance : IntTy Try.prog 5 .u8 := ⟨Try.underlying5⟩
instance : IntTy Try.prog 21 .i32 := ⟨Try.underlying21⟩
instance : SliceTy Try.prog 22 37 := ⟨Try.underlying22⟩
instance : CellTy Try.prog 22 (.slice none 0 0) 24 := ⟨info_parts (by kernel_rfl), Try.isAgg22, rfl, by decide⟩
instance : ZeroBox Try.prog 24 := ⟨fun _ => by kernel_rfl⟩
instance : BoxTy Try.prog 24 := ⟨fun _ _ => by kernel_rfl, Try.isAgg24, Try.sizeOf24⟩
instance : ZeroBox Try.prog 28 := ⟨fun _ => by kernel_rfl⟩
instance : BoxTy Try.prog 28 := ⟨fun _ _ => by kernel_rfl, Try.isAgg28, Try.sizeOf28⟩
instance : SliceTy Try.prog 37 2 := ⟨Try.underlying37⟩
instance : CellTy Try.prog 37 (.slice none 0 0) 24 := ⟨info_parts (by kernel_rfl), Try.isAgg37, rfl, by decide⟩
instance : SliceTy Try.prog 77 4 := ⟨Try.underlying77⟩
instance : CellTy Try.prog 77 (.slice none 0 0) 24 := ⟨info_parts (by kernel_rfl), Try.isAgg77, rfl, by decide⟩
instance : FunTy Try.prog 3 := FunTy.of Try.func3 (by kernel_rfl) rfl -- loop.example/g01108/laws.FnExactCountAutomorphisms
instance : FunTy Try.prog 4 := FunTy.of Try.func4 (by kernel_rfl) rfl -- loop.example/g01108/laws.FnExactIsRegular
instance : FunTy Try.prog 5 := FunTy.of Try.func5 (by kernel_rfl) rfl -- loop.example/g01108/laws.FnExactCountCoverings
instance : FunTy Try.prog 6 := FunTy.of Try.func6 (by kernel_rfl) rfl -- loop.example/g01108/laws.FnExactAreCovered
instance : FunTy Try.prog 7 := FunTy.of Try.func7 (by kernel_rfl) rfl -- loop.example/g01108/laws.FnExactAreIsomorphic
instance : FunTy Try.prog 8 := FunTy.of Try.func8 (by kernel_rfl) rfl -- loop.example/g01108/laws.FnExactDoesNothing
instance : FunTy Try.prog 9 := FunTy.of Try.func9 (by kernel_rfl) rfl -- loop.example/g01108/laws.FnExactAutomorphismTo
instance : FunTy Try.prog 10 := FunTy.of Try.func10 (by kernel_rfl) rfl -- loop.example/g01108/laws.szManiplex
instance : FunTy Try.prog 11 := FunTy.of Try.func11 (by kernel_rfl) rfl -- loop.example/g01108/spec.CountAutomorphisms
instance : FunTy Try.prog 12 := FunTy.of Try.func12 (by kernel_rfl) rfl -- loop.example/g01108/laws.toManiplex
instance : FunTy Try.prog 13 := FunTy.of Try.func13 (by kernel_rfl) rfl -- loop.example/g01108/impl.CountAutomorphisms
instance : FunTy Try.prog 14 := FunTy.of Try.func14 (by kernel_rfl) rfl -- loop.example/g01108/laws.eqManiplex
instance : FunTy Try.prog 15 := FunTy.of Try.func15 (by kernel_rfl) rfl -- loop.example/g01108/spec.IsRegular
instance : FunTy Try.prog 16 := FunTy.of Try.func16 (by kernel_rfl) rfl -- loop.example/g01108/impl.IsRegular
instance : FunTy Try.prog 17 := FunTy.of Try.func17 (by kernel_rfl) rfl -- loop.example/g01108/spec.CountCoverings
instance : FunTy Try.prog 18 := FunTy.of Try.func18 (by kernel_rfl) rfl -- loop.example/g01108/impl.CountCoverings
instance : FunTy Try.prog 19 := FunTy.of Try.func19 (by kernel_rfl) rfl -- loop.example/g01108/spec.AreCovered
instance : FunTy Try.prog 20 := FunTy.of Try.func20 (by kernel_rfl) rfl -- loop.example/g01108/impl.AreCovered
instance : FunTy Try.prog 21 := FunTy.of Try.func21 (by kernel_rfl) rfl -- loop.example/g01108/spec.AreIsomorphic
instance : FunTy Try.prog 22 := FunTy.of Try.func22 (by kernel_rfl) rfl -- loop.example/g01108/impl.AreIsomorphic
instance : FunTy Try.prog 23 := FunTy.of Try.func23 (by kernel_rfl) rfl -- loop.example/g01108/spec.DoesNothing
instance : FunTy Try.prog 24 := FunTy.of Try.func24 (by kernel_rfl) rfl -- loop.example/g01108/laws.toInt64S
instance : FunTy Try.prog 25 := FunTy.of Try.func25 (by kernel_rfl) rfl -- loop.example/g01108/impl.DoesNothing
instance : FunTy Try.prog 26 := FunTy.of Try.func26 (by kernel_rfl) rfl -- loop.example/g01108/laws.eqInt64S
instance : FunTy Try.prog 27 := FunTy.of Try.func27 (by kernel_rfl) rfl -- loop.example/g01108/spec.AutomorphismTo
instance : FunTy Try.prog 28 := FunTy.of Try.func28 (by kernel_rfl) rfl -- loop.example/g01108/impl.AutomorphismTo
instance : FunTy Try.prog 29 := FunTy.of Try.func29 (by kernel_rfl) rfl -- loop.example/g01108/laws.markManiplex
instance : FunTy Try.prog 30 := FunTy.of Try.func30 (by kernel_rfl) rfl -- loop.example/g01108/laws.markInt64S
instance : FunTy Try.prog 31 := FunTy.of Try.func31 (by kernel_rfl) rfl -- loop.example/g01108/laws.heldInt64S
instance : FunTy Try.prog 32 := FunTy.of Try.func32 (by kernel_rfl) rfl -- loop.example/g01108/laws.szInt64SS
instance : FunTy Try.prog 33 := FunTy.of Try.func33 (by kernel_rfl) rfl -- loop.example/g01108/spec.l02Is
instance : FunTy Try.prog 34 := FunTy.of Try.func34 (by kernel_rfl) rfl -- loop.example/g01108/spec.l06All
instance : FunTy Try.prog 35 := FunTy.of Try.func35 (by kernel_rfl) rfl -- loop.example/g01108/laws.toInt64SS
instance : FunTy Try.prog 36 := FunTy.of Try.func36 (by kernel_rfl) rfl -- loop.example/g01108/impl.isManiplex
instance : FunTy Try.prog 37 := FunTy.of Try.func37 (by kernel_rfl) rfl -- loop.example/g01108/impl.size[[]int64]
instance : FunTy Try.prog 38 := FunTy.of Try.func38 (by kernel_rfl) rfl -- loop.example/g01108/impl.coveringsOf
instance : FunTy Try.prog 39 := FunTy.of Try.func39 (by kernel_rfl) rfl -- loop.example/g01108/laws.eqInt64SS
instance : FunTy Try.prog 40 := FunTy.of Try.func40 (by kernel_rfl) rfl -- loop.example/g01108/spec.l02Flags
instance : FunTy Try.prog 41 := FunTy.of Try.func41 (by kernel_rfl) rfl -- (*loop.example/g01108/impl.Maniplex).flagOrbits
instance : FunTy Try.prog 42 := FunTy.of Try.func42 (by kernel_rfl) rfl -- loop.example/g01108/spec.l07Covers
instance : FunTy Try.prog 43 := FunTy.of Try.func43 (by kernel_rfl) rfl -- loop.example/g01108/spec.l06First
instance : FunTy Try.prog 44 := FunTy.of Try.func44 (by kernel_rfl) rfl -- loop.example/g01108/impl.isomorphismOf
instance : FunTy Try.prog 45 := FunTy.of Try.func45 (by kernel_rfl) rfl -- loop.example/g01108/spec.l08Word
instance : FunTy Try.prog 46 := FunTy.of Try.func46 (by kernel_rfl) rfl -- loop.example/g01108/spec.l08Nothing
instance : FunTy Try.prog 47 := FunTy.of Try.func47 (by kernel_rfl) rfl -- (*loop.example/g01108/impl.Maniplex).isWord
instance : FunTy Try.prog 48 := FunTy.of Try.func48 (by kernel_rfl) rfl -- loop.example/g01108/impl.isIdentity
instance : FunTy Try.prog 49 := FunTy.of Try.func49 (by kernel_rfl) rfl -- (*loop.example/g01108/impl.Maniplex).does
instance : FunTy Try.prog 50 := FunTy.of Try.func50 (by kernel_rfl) rfl -- loop.example/g01108/spec.l02Flag
instance : FunTy Try.prog 51 := FunTy.of Try.func51 (by kernel_rfl) rfl -- loop.example/g01108/spec.l06Map
instance : FunTy Try.prog 52 := FunTy.of Try.func52 (by kernel_rfl) rfl -- (*loop.example/g01108/impl.Maniplex).hasFlag
instance : FunTy Try.prog 53 := FunTy.of Try.func53 (by kernel_rfl) rfl -- loop.example/g01108/impl.coveringTo
instance : FunTy Try.prog 54 := FunTy.of Try.func54 (by kernel_rfl) rfl -- loop.example/g01108/laws.markInt64SS
instance : FunTy Try.prog 55 := FunTy.of Try.func55 (by kernel_rfl) rfl -- loop.example/g01108/laws.szInt64S
instance : FunTy Try.prog 56 := FunTy.of Try.func56 (by kernel_rfl) rfl -- loop.example/g01108/spec.l01Perm
instance : FunTy Try.prog 57 := FunTy.of Try.func57 (by kernel_rfl) rfl -- loop.example/g01108/spec.l01Free
instance : FunTy Try.prog 58 := FunTy.of Try.func58 (by kernel_rfl) rfl -- loop.example/g01108/spec.l01Orbit
instance : FunTy Try.prog 59 := FunTy.of Try.func59 (by kernel_rfl) rfl -- loop.example/g01108/impl.within
instance : FunTy Try.prog 60 := FunTy.of Try.func60 (by kernel_rfl) rfl -- (*loop.example/g01108/impl.Maniplex).rank
instance : FunTy Try.prog 61 := FunTy.of Try.func61 (by kernel_rfl) rfl -- (*loop.example/g01108/impl.Maniplex).flags
instance : FunTy Try.prog 62 := FunTy.of Try.func62 (by kernel_rfl) rfl -- loop.example/g01108/impl.isFreeInvolution
instance : FunTy Try.prog 63 := FunTy.of Try.func63 (by kernel_rfl) rfl -- loop.example/g01108/impl.size[int64]
instance : FunTy Try.prog 64 := FunTy.of Try.func64 (by kernel_rfl) rfl -- loop.example/g01108/impl.orbitLabels
instance : FunTy Try.prog 65 := FunTy.of Try.func65 (by kernel_rfl) rfl -- loop.example/g01108/spec.l07Cover
instance : FunTy Try.prog 66 := FunTy.of Try.func66 (by kernel_rfl) rfl -- loop.example/g01108/spec.l06Fits
instance : FunTy Try.prog 67 := FunTy.of Try.func67 (by kernel_rfl) rfl -- loop.example/g01108/spec.l02Word
instance : FunTy Try.prog 68 := FunTy.of Try.func68 (by kernel_rfl) rfl -- loop.example/g01108/spec.l02Run
instance : FunTy Try.prog 69 := FunTy.of Try.func69 (by kernel_rfl) rfl -- loop.example/g01108/impl.areWithin
instance : FunTy Try.prog 70 := FunTy.of Try.func70 (by kernel_rfl) rfl -- loop.example/g01108/impl.identity
instance : FunTy Try.prog 71 := FunTy.of Try.func71 (by kernel_rfl) rfl -- loop.example/g01108/impl.then
instance : FunTy Try.prog 72 := FunTy.of Try.func72 (by kernel_rfl) rfl -- loop.example/g01108/spec.l01In
instance : FunTy Try.prog 73 := FunTy.of Try.func73 (by kernel_rfl) rfl -- slices.Repeat[[]int64,int64]
instance : FunTy Try.prog 74 := FunTy.of Try.func74 (by kernel_rfl) rfl -- loop.example/g01108/impl.isPermutation
instance : FunTy Try.prog 75 := FunTy.of Try.func75 (by kernel_rfl) rfl -- slices.ContainsFunc[[]int64,int64]
instance : FunTy Try.prog 76 := FunTy.of Try.func76 (by kernel_rfl) rfl -- loop.example/g01108/impl.areWithin$1
instance : FunTy Try.prog 77 := FunTy.of Try.func77 (by kernel_rfl) rfl -- math/bits.Mul
instance : FunTy Try.prog 78 := FunTy.of Try.func78 (by kernel_rfl) rfl -- slices.IndexFunc[[]int64,int64]
instance : FunTy Try.prog 79 := FunTy.of Try.func79 (by kernel_rfl) rfl -- math/bits.Mul32
instance : FunTy Try.prog 80 := FunTy.of Try.func80 (by kernel_rfl) rfl -- math/bits.Mul64
theorem mixed : Try.prog.follows .mixedOrders = true := by kernel_rfl
end Go.Proofs.Ytfdjcleodeocoaa
