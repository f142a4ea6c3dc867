import Derived.Shelf.Pu.ParseUintPublic10
import Derived.Shelf.Pu.ErrVarParseUint
import Derived.Test.YtdmpbkbbijjdaaaDoorProg
namespace Go.Proofs
open Go.Shelf
def Tryd.laysPu14_ren : Go.Shelf.Ren := ⟨fun | 14 => 24 | 16 => 27 | 17 => 28 | 19 => 34 | 20 => 35 | 21 => 36 | 22 => 37 | 23 => 38 | 24 => 39 | 25 => 44 | 27 => 46 | 26 => 45 | 28 => 49 | 29 => 50 | 30 => 30 | 31 => 31 | 32 => 32 | 33 => 33 | 35 => 29 | 34 => 40 | 36 => 41 | 37 => 42 | 38 => 43 | 39 => 47 | 40 => 48 | n => n, fun | 9 => 9 | 3 => 3 | 22 => 23 | 24 => 52 | 25 => 53 | 4 => 4 | 34 => 62 | 5 => 5 | 36 => 47 | 37 => 49 | 0 => 0 | 39 => 65 | 21 => 21 | 44 => 77 | 47 => 80 | 50 => 83 | 48 => 81 | 2 => 2 | 52 => 58 | 55 => 60 | 59 => 70 | 60 => 71 | 20 => 20 | 61 => 72 | 65 => 84 | 66 => 85 | 67 => 87 | n => n, fun | 0 => 3 | 1 => 4 | 2 => 2 | 3 => 5 | 4 => 6 | n => n⟩
theorem Tryd.laysPu14 : Go.Proofs.LaysPu.n14 Tryd.prog Tryd.laysPu14_ren := {
  mixed := by kernel_rfl
  f14 := Tryd.func24.trans (congrArg some (by kernel_rfl))
  f16 := Tryd.func27.trans (congrArg some (by kernel_rfl))
  f17 := Tryd.func28.trans (congrArg some (by kernel_rfl))
  f19 := Tryd.func34.trans (congrArg some (by kernel_rfl))
  f20 := Tryd.func35.trans (congrArg some (by kernel_rfl))
  f21 := Tryd.func36.trans (congrArg some (by kernel_rfl))
  f22 := Tryd.func37.trans (congrArg some (by kernel_rfl))
  f23 := Tryd.func38.trans (congrArg some (by kernel_rfl))
  f24 := Tryd.func39.trans (congrArg some (by kernel_rfl))
  f25 := Tryd.func44.trans (congrArg some (by kernel_rfl))
  f26 := Tryd.func45.trans (congrArg some (by kernel_rfl))
  f27 := Tryd.func46.trans (congrArg some (by kernel_rfl))
  f28 := Tryd.func49.trans (congrArg some (by kernel_rfl))
  f29 := Tryd.func50.trans (congrArg some (by kernel_rfl))
  f30 := Tryd.func30.trans (congrArg some (by kernel_rfl))
  f31 := Tryd.func31.trans (congrArg some (by kernel_rfl))
  f32 := Tryd.func32.trans (congrArg some (by kernel_rfl))
  f33 := Tryd.func33.trans (congrArg some (by kernel_rfl))
  f34 := Tryd.func40.trans (congrArg some (by kernel_rfl))
  f35 := Tryd.func29.trans (congrArg some (by kernel_rfl))
  f36 := Tryd.func41.trans (congrArg some (by kernel_rfl))
  f37 := Tryd.func42.trans (congrArg some (by kernel_rfl))
  f38 := Tryd.func43.trans (congrArg some (by kernel_rfl))
  f39 := Tryd.func47.trans (congrArg some (by kernel_rfl))
  f40 := Tryd.func48.trans (congrArg some (by kernel_rfl))
  t0 := Tryd.underlying0
  a0 := Tryd.isAgg0
  z0 := Tryd.sizeOf0
  v0 := Tryd.zeroValue0
  i0 := by kernel_rfl
  t2 := Tryd.underlying2
  a2 := Tryd.isAgg2
  z2 := Tryd.sizeOf2
  v2 := Tryd.zeroValue2
  i2 := by kernel_rfl
  t3 := Tryd.underlying3
  a3 := Tryd.isAgg3
  z3 := Tryd.sizeOf3
  v3 := Tryd.zeroValue3
  i3 := by kernel_rfl
  t4 := Tryd.underlying4
  a4 := Tryd.isAgg4
  z4 := Tryd.sizeOf4
  v4 := Tryd.zeroValue4
  i4 := by kernel_rfl
  t5 := Tryd.underlying5
  a5 := Tryd.isAgg5
  z5 := Tryd.sizeOf5
  v5 := Tryd.zeroValue5
  i5 := by kernel_rfl
  t9 := Tryd.underlying9
  a9 := Tryd.isAgg9
  z9 := Tryd.sizeOf9
  v9 := Tryd.zeroValue9
  i9 := by kernel_rfl
  t20 := Tryd.underlying20
  a20 := Tryd.isAgg20
  z20 := Tryd.sizeOf20
  v20 := Tryd.zeroValue20
  i20 := by kernel_rfl
  t21 := Tryd.underlying21
  a21 := Tryd.isAgg21
  z21 := Tryd.sizeOf21
  v21 := Tryd.zeroValue21
  i21 := by kernel_rfl
  t22 := Tryd.underlying23
  a22 := Tryd.isAgg23
  z22 := Tryd.sizeOf23
  v22 := Tryd.zeroValue23
  i22 := by kernel_rfl
  t24 := Tryd.underlying52
  a24 := Tryd.isAgg52
  z24 := Tryd.sizeOf52
  v24 := Tryd.zeroValue52
  i24 := by kernel_rfl
  t25 := Tryd.underlying53
  a25 := Tryd.isAgg53
  z25 := Tryd.sizeOf53
  v25 := Tryd.zeroValue53
  i25 := by kernel_rfl
  t34 := Tryd.underlying62
  a34 := Tryd.isAgg62
  z34 := Tryd.sizeOf62
  v34 := Tryd.zeroValue62
  i34 := by kernel_rfl
  c34 := by kernel_rfl
  t36 := Tryd.underlying47
  a36 := Tryd.isAgg47
  z36 := Tryd.sizeOf47
  v36 := Tryd.zeroValue47
  i36 := by kernel_rfl
  t37 := Tryd.underlying49
  a37 := Tryd.isAgg49
  z37 := Tryd.sizeOf49
  v37 := Tryd.zeroValue49
  i37 := by kernel_rfl
  t39 := Tryd.underlying65
  a39 := Tryd.isAgg65
  z39 := Tryd.sizeOf65
  v39 := Tryd.zeroValue65
  i39 := by kernel_rfl
  t44 := Tryd.underlying77
  a44 := Tryd.isAgg77
  z44 := Tryd.sizeOf77
  v44 := Tryd.zeroValue77
  i44 := by kernel_rfl
  t47 := Tryd.underlying80
  a47 := Tryd.isAgg80
  z47 := Tryd.sizeOf80
  v47 := Tryd.zeroValue80
  i47 := by kernel_rfl
  t48 := Tryd.underlying81
  a48 := Tryd.isAgg81
  z48 := Tryd.sizeOf81
  v48 := Tryd.zeroValue81
  i48 := by kernel_rfl
  t50 := Tryd.underlying83
  a50 := Tryd.isAgg83
  z50 := Tryd.sizeOf83
  v50 := Tryd.zeroValue83
  i50 := by kernel_rfl
  t52 := Tryd.underlying58
  a52 := Tryd.isAgg58
  z52 := Tryd.sizeOf58
  v52 := Tryd.zeroValue58
  i52 := by kernel_rfl
  t55 := Tryd.underlying60
  a55 := Tryd.isAgg60
  z55 := Tryd.sizeOf60
  v55 := Tryd.zeroValue60
  i55 := by kernel_rfl
  t59 := Tryd.underlying70
  a59 := Tryd.isAgg70
  z59 := Tryd.sizeOf70
  v59 := Tryd.zeroValue70
  i59 := by kernel_rfl
  t60 := Tryd.underlying71
  a60 := Tryd.isAgg71
  z60 := Tryd.sizeOf71
  v60 := Tryd.zeroValue71
  i60 := by kernel_rfl
  t61 := Tryd.underlying72
  a61 := Tryd.isAgg72
  z61 := Tryd.sizeOf72
  t65 := Tryd.underlying84
  a65 := Tryd.isAgg84
  z65 := Tryd.sizeOf84
  v65 := Tryd.zeroValue84
  i65 := by kernel_rfl
  t66 := Tryd.underlying85
  a66 := Tryd.isAgg85
  z66 := Tryd.sizeOf85
  v66 := Tryd.zeroValue85
  i66 := by kernel_rfl
  t67 := Tryd.underlying87
  a67 := Tryd.isAgg87
  z67 := Tryd.sizeOf87
  v67 := Tryd.zeroValue87
  i67 := by kernel_rfl
  g0 := by kernel_rfl
  m0 := by kernel_rfl
  g1 := by kernel_rfl
  m1 := by kernel_rfl
  g2 := by kernel_rfl
  m2 := by kernel_rfl
  g3 := by kernel_rfl
  m3 := by kernel_rfl
  g4 := by kernel_rfl
  m4 := by kernel_rfl }

open Go.RowKit in
/-- What strconv.ParseUint(s, 10, 32) answers: the number and nil; or some error. -/
def PuRes (l : List UInt8) (w : World) (e : Ending) (w' : World) : Prop :=
  Below w.heap.size w w' ∧ ((∃ u, Lib.parseUintB 32 l = .ok u ∧ e = .returned (.tuple #[.int .u64 (u : Nat), .nilIface])) ∨
    ((∀ u, Lib.parseUintB 32 l ≠ .ok u) ∧ ∃ (v : Int) (N : Nat), e = .returned (.tuple #[.int .u64 v, .iface 65 (.pointer (some ⟨N, 0, none⟩))])))
open Go.RowKit in
theorem Tryd.parse32 (s : ByteArray) (hlim : s.size ≤ 281474976710656) (tp : TypeId) (p : Value) (tq : TypeId) (q : Value) (w : World)
    (hvar : w.var? Tryd.prog "strconv.ErrSyntax" = some #[.iface tp p]) (hvar2 : w.var? Tryd.prog "strconv.ErrRange" = some #[.iface tq q]) :
    Calls Tryd.prog 24 #[.string s, .int .i64 10, .int .i64 32] w (PuRes s.data.toList w) := by
  rcases h : Lib.parseUintB 32 s.data.toList with u | _ | _
  · refine (Any.strconv_ParseUint_10_at32_ok Tryd.laysPu14 s (by omega) u h w).mono ?_
    rintro e w' ⟨rfl, hw⟩
    refine ⟨?_, .inl ⟨u, h, rfl⟩⟩
    rcases hw with rfl | rfl
    · exact Below.refl _ _
    · exact Lib.bytesWorld_below _ _ _
  · refine (Any.strconv_ParseUint_10_at32_syntax_var Tryd.laysPu14 s hlim h tp p w hvar).mono ?_
    rintro e w' ⟨N, rfl, _, _, hb⟩
    exact ⟨hb, .inr ⟨fun u hu => (by rw [h] at hu; cases hu), 0, N, rfl⟩⟩
  · refine (Any.strconv_ParseUint_10_at32_range_var Tryd.laysPu14 s hlim h tq q w hvar2).mono ?_
    rintro e w' ⟨N, rfl, _, _, hb⟩
    exact ⟨hb, .inr ⟨fun u hu => (by rw [h] at hu; cases hu), 4294967295, N, rfl⟩⟩
end Go.Proofs
