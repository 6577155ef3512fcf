/- What the row of gateHeld_card_holds needs: part 4. -/
import Derived.Test.YtpilenbdimhegaaGreatDoorGHe3
import Derived.ProofKit
import Derived.OpenShut
import Derived.ShutString
import Derived.ChangeOld
/- The types of this program, as instances: sizes, fields, zero values. Written by a program. -/
namespace Go.Proofs.YtpilenbdimhegaaGreatDoor
open Go.RowKit
set_option linter.unusedSimpArgs false
set_option linter.unusedVariables false
set_option maxRecDepth 100000

instance : TyI Tryz.prog 2 false 1 := ⟨by kernel_rfl, by kernel_rfl⟩
instance : IntI Tryz.prog 2 .i64 := ⟨by kernel_rfl⟩
instance : ZeroI Tryz.prog 2 [(1, [.int .i64 0])] := ⟨by kernel_rfl, FOk.one1 rfl (FOk.nil)⟩
instance : TyI Tryz.prog 3 false 1 := ⟨by kernel_rfl, by kernel_rfl⟩
instance : IntI Tryz.prog 3 .i64 := ⟨by kernel_rfl⟩
instance : ZeroI Tryz.prog 3 [(1, [.int .i64 0])] := ⟨by kernel_rfl, FOk.one1 rfl (FOk.nil)⟩
instance : EltI Tryz.prog 3 (.int .i64 0) 8 := ⟨by kernel_rfl, rfl⟩
instance : TyI Tryz.prog 4 false 1 := ⟨by kernel_rfl, by kernel_rfl⟩
instance : ZeroI Tryz.prog 4 [(1, [.bool false])] := ⟨by kernel_rfl, FOk.one1 rfl (FOk.nil)⟩
instance : TyI Tryz.prog 5 false 1 := ⟨by kernel_rfl, by kernel_rfl⟩
instance : IntI Tryz.prog 5 .u8 := ⟨by kernel_rfl⟩
instance : ZeroI Tryz.prog 5 [(1, [.int .u8 0])] := ⟨by kernel_rfl, FOk.one1 rfl (FOk.nil)⟩
instance : EltI Tryz.prog 5 (.int .u8 0) 1 := ⟨by kernel_rfl, rfl⟩
instance : TyI Tryz.prog 9 false 1 := ⟨by kernel_rfl, by kernel_rfl⟩
instance : ZeroI Tryz.prog 9 [(1, [.string (ByteArray.mk #[])])] := ⟨by kernel_rfl, FOk.one1 rfl (FOk.nil)⟩
instance : EltI Tryz.prog 9 (.string (ByteArray.mk #[])) 16 := ⟨by kernel_rfl, rfl⟩
instance : TyI Tryz.prog 12 false 1 := ⟨by kernel_rfl, by kernel_rfl⟩
instance : IntI Tryz.prog 12 .u64 := ⟨by kernel_rfl⟩
instance : ZeroI Tryz.prog 12 [(1, [.int .u64 0])] := ⟨by kernel_rfl, FOk.one1 rfl (FOk.nil)⟩
instance : TyI Tryz.prog 15 false 1 := ⟨by kernel_rfl, by kernel_rfl⟩
instance : ZeroI Tryz.prog 15 [(1, [.pointer none])] := ⟨by kernel_rfl, FOk.one1 rfl (FOk.nil)⟩
instance : TyI Tryz.prog 16 false 1 := ⟨by kernel_rfl, by kernel_rfl⟩
instance : ZeroI Tryz.prog 16 [(1, [.pointer none])] := ⟨by kernel_rfl, FOk.one1 rfl (FOk.nil)⟩
instance : TyI Tryz.prog 17 false 1 := ⟨by kernel_rfl, by kernel_rfl⟩
instance : ZeroI Tryz.prog 17 [(1, [.pointer none])] := ⟨by kernel_rfl, FOk.one1 rfl (FOk.nil)⟩
instance : TyI Tryz.prog 21 false 1 := ⟨by kernel_rfl, by kernel_rfl⟩
instance : IntI Tryz.prog 21 .i32 := ⟨by kernel_rfl⟩
instance : ZeroI Tryz.prog 21 [(1, [.int .i32 0])] := ⟨by kernel_rfl, FOk.one1 rfl (FOk.nil)⟩
instance : TyI Tryz.prog 22 false 1 := ⟨by kernel_rfl, by kernel_rfl⟩
instance : SliI Tryz.prog 22 58 := ⟨by kernel_rfl⟩
instance : ZeroI Tryz.prog 22 [(1, [.slice none 0 0])] := ⟨by kernel_rfl, FOk.one1 rfl (FOk.nil)⟩
instance : TyI Tryz.prog 23 false 1 := ⟨by kernel_rfl, by kernel_rfl⟩
instance : SliI Tryz.prog 23 41 := ⟨by kernel_rfl⟩
instance : ZeroI Tryz.prog 23 [(1, [.slice none 0 0])] := ⟨by kernel_rfl, FOk.one1 rfl (FOk.nil)⟩
instance : TyI Tryz.prog 25 false 1 := ⟨by kernel_rfl, by kernel_rfl⟩
instance : ZeroI Tryz.prog 25 [(1, [.pointer none])] := ⟨by kernel_rfl, FOk.one1 rfl (FOk.nil)⟩
instance : TyI Tryz.prog 26 false 1 := ⟨by kernel_rfl, by kernel_rfl⟩
instance : IntI Tryz.prog 26 .i64 := ⟨by kernel_rfl⟩
instance : ZeroI Tryz.prog 26 [(1, [.int .i64 0])] := ⟨by kernel_rfl, FOk.one1 rfl (FOk.nil)⟩
instance : TyI Tryz.prog 29 true 3 := ⟨by kernel_rfl, by kernel_rfl⟩
instance : FldI Tryz.prog 29 0 0 := ⟨by kernel_rfl⟩
instance : FldI Tryz.prog 29 1 1 := ⟨by kernel_rfl⟩
instance : FldI Tryz.prog 29 2 2 := ⟨by kernel_rfl⟩
instance : StrI Tryz.prog 29 [(0, 1), (1, 1), (2, 1)] := ⟨by kernel_rfl⟩
instance : EqI Tryz.prog 29 [some .i64, some .i64, some .i64] := ⟨⟨aggTy, by kernel_rfl, by kernel_rfl, by kernel_rfl⟩⟩
instance : ZeroI Tryz.prog 29 [(1, [.int .i64 0]), (1, [.int .i64 0]), (1, [.int .i64 0])] := ⟨by kernel_rfl, FOk.one1 rfl (FOk.one1 rfl (FOk.one1 rfl (FOk.nil)))⟩
instance : TyI Tryz.prog 30 true 3 := ⟨by kernel_rfl, by kernel_rfl⟩
instance : FldI Tryz.prog 30 0 0 := ⟨by kernel_rfl⟩
instance : FldI Tryz.prog 30 1 1 := ⟨by kernel_rfl⟩
instance : FldI Tryz.prog 30 2 2 := ⟨by kernel_rfl⟩
instance : StrI Tryz.prog 30 [(0, 1), (1, 1), (2, 1)] := ⟨by kernel_rfl⟩
instance : EqI Tryz.prog 30 [some .i64, some .i64, some .i64] := ⟨⟨aggTy, by kernel_rfl, by kernel_rfl, by kernel_rfl⟩⟩
instance : ZeroI Tryz.prog 30 [(1, [.int .i64 0]), (1, [.int .i64 0]), (1, [.int .i64 0])] := ⟨by kernel_rfl, FOk.one1 rfl (FOk.one1 rfl (FOk.one1 rfl (FOk.nil)))⟩
instance : TyI Tryz.prog 32 false 1 := ⟨by kernel_rfl, by kernel_rfl⟩
instance : IntI Tryz.prog 32 .u64 := ⟨by kernel_rfl⟩
instance : ZeroI Tryz.prog 32 [(1, [.int .u64 0])] := ⟨by kernel_rfl, FOk.one1 rfl (FOk.nil)⟩
instance : TyI Tryz.prog 33 true 16 := ⟨by kernel_rfl, by kernel_rfl⟩
instance : ArrI Tryz.prog 33 16 5 := ⟨by kernel_rfl⟩
instance : EqI Tryz.prog 33 [some .u8, some .u8, some .u8, some .u8, some .u8, some .u8, some .u8, some .u8, some .u8, some .u8, some .u8, some .u8, some .u8, some .u8, some .u8, some .u8] := ⟨⟨aggTy, by kernel_rfl, by kernel_rfl, by kernel_rfl⟩⟩
instance : ZeroI Tryz.prog 33 [(16, u8s (List.replicate 16 0))] := ⟨by kernel_rfl, FOk.bytes (by simp) (FOk.nil)⟩
instance : TyI Tryz.prog 34 true 17 := ⟨by kernel_rfl, by kernel_rfl⟩
instance : FldI Tryz.prog 34 0 0 := ⟨by kernel_rfl⟩
instance : FldI Tryz.prog 34 1 1 := ⟨by kernel_rfl⟩
instance : StrI Tryz.prog 34 [(0, 1), (1, 16)] := ⟨by kernel_rfl⟩
instance : EqI Tryz.prog 34 [none, some .u8, some .u8, some .u8, some .u8, some .u8, some .u8, some .u8, some .u8, some .u8, some .u8, some .u8, some .u8, some .u8, some .u8, some .u8, some .u8] := ⟨⟨aggTy, by kernel_rfl, by kernel_rfl, by kernel_rfl⟩⟩
instance : ZeroI Tryz.prog 34 [(1, [.bool false]), (16, u8s (List.replicate 16 0))] := ⟨by kernel_rfl, FOk.one1 rfl (FOk.bytes (by simp) (FOk.nil))⟩
instance : TyI Tryz.prog 35 true 17 := ⟨by kernel_rfl, by kernel_rfl⟩
instance : FldI Tryz.prog 35 0 0 := ⟨by kernel_rfl⟩
instance : FldI Tryz.prog 35 1 1 := ⟨by kernel_rfl⟩
instance : StrI Tryz.prog 35 [(0, 1), (1, 16)] := ⟨by kernel_rfl⟩
instance : EqI Tryz.prog 35 [none, some .u8, some .u8, some .u8, some .u8, some .u8, some .u8, some .u8, some .u8, some .u8, some .u8, some .u8, some .u8, some .u8, some .u8, some .u8, some .u8] := ⟨⟨aggTy, by kernel_rfl, by kernel_rfl, by kernel_rfl⟩⟩
instance : ZeroI Tryz.prog 35 [(1, [.bool false]), (16, u8s (List.replicate 16 0))] := ⟨by kernel_rfl, FOk.one1 rfl (FOk.bytes (by simp) (FOk.nil))⟩
instance : TyI Tryz.prog 36 false 1 := ⟨by kernel_rfl, by kernel_rfl⟩
instance : IntI Tryz.prog 36 .u16 := ⟨by kernel_rfl⟩
instance : ZeroI Tryz.prog 36 [(1, [.int .u16 0])] := ⟨by kernel_rfl, FOk.one1 rfl (FOk.nil)⟩
instance : TyI Tryz.prog 37 true 37 := ⟨by kernel_rfl, by kernel_rfl⟩
instance : FldI Tryz.prog 37 0 0 := ⟨by kernel_rfl⟩
instance : FldI Tryz.prog 37 1 17 := ⟨by kernel_rfl⟩
instance : FldI Tryz.prog 37 2 34 := ⟨by kernel_rfl⟩
instance : FldI Tryz.prog 37 3 35 := ⟨by kernel_rfl⟩
instance : FldI Tryz.prog 37 4 36 := ⟨by kernel_rfl⟩
instance : StrI Tryz.prog 37 [(0, 17), (17, 17), (34, 1), (35, 1), (36, 1)] := ⟨by kernel_rfl⟩
instance : EqI Tryz.prog 37 [none, some .u8, some .u8, some .u8, some .u8, some .u8, some .u8, some .u8, some .u8, some .u8, some .u8, some .u8, some .u8, some .u8, some .u8, some .u8, some .u8, none, some .u8, some .u8, some .u8, some .u8, some .u8, some .u8, some .u8, some .u8, some .u8, some .u8, some .u8, some .u8, some .u8, some .u8, some .u8, some .u8, some .u16, some .u16, some .u8] := ⟨⟨aggTy, by kernel_rfl, by kernel_rfl, by kernel_rfl⟩⟩
instance : ZeroI Tryz.prog 37 [(1, [.bool false]), (16, u8s (List.replicate 16 0)), (1, [.bool false]), (16, u8s (List.replicate 16 0)), (1, [.int .u16 0]), (1, [.int .u16 0]), (1, [.int .u8 0])] := ⟨by kernel_rfl, FOk.one1 rfl (FOk.bytes (by simp) (FOk.one1 rfl (FOk.bytes (by simp) (FOk.one1 rfl (FOk.one1 rfl (FOk.one1 rfl (FOk.nil)))))))⟩
instance : TyI Tryz.prog 38 true 37 := ⟨by kernel_rfl, by kernel_rfl⟩
instance : FldI Tryz.prog 38 0 0 := ⟨by kernel_rfl⟩
instance : FldI Tryz.prog 38 1 17 := ⟨by kernel_rfl⟩
instance : FldI Tryz.prog 38 2 34 := ⟨by kernel_rfl⟩
instance : FldI Tryz.prog 38 3 35 := ⟨by kernel_rfl⟩
instance : FldI Tryz.prog 38 4 36 := ⟨by kernel_rfl⟩
instance : StrI Tryz.prog 38 [(0, 17), (17, 17), (34, 1), (35, 1), (36, 1)] := ⟨by kernel_rfl⟩
instance : EqI Tryz.prog 38 [none, some .u8, some .u8, some .u8, some .u8, some .u8, some .u8, some .u8, some .u8, some .u8, some .u8, some .u8, some .u8, some .u8, some .u8, some .u8, some .u8, none, some .u8, some .u8, some .u8, some .u8, some .u8, some .u8, some .u8, some .u8, some .u8, some .u8, some .u8, some .u8, some .u8, some .u8, some .u8, some .u8, some .u16, some .u16, some .u8] := ⟨⟨aggTy, by kernel_rfl, by kernel_rfl, by kernel_rfl⟩⟩
instance : ZeroI Tryz.prog 38 [(1, [.bool false]), (16, u8s (List.replicate 16 0)), (1, [.bool false]), (16, u8s (List.replicate 16 0)), (1, [.int .u16 0]), (1, [.int .u16 0]), (1, [.int .u8 0])] := ⟨by kernel_rfl, FOk.one1 rfl (FOk.bytes (by simp) (FOk.one1 rfl (FOk.bytes (by simp) (FOk.one1 rfl (FOk.one1 rfl (FOk.one1 rfl (FOk.nil)))))))⟩
instance : TyI Tryz.prog 39 false 1 := ⟨by kernel_rfl, by kernel_rfl⟩
instance : SliI Tryz.prog 39 5 := ⟨by kernel_rfl⟩
instance : ZeroI Tryz.prog 39 [(1, [.slice none 0 0])] := ⟨by kernel_rfl, FOk.one1 rfl (FOk.nil)⟩
instance : EltI Tryz.prog 39 (.slice none 0 0) 24 := ⟨by kernel_rfl, rfl⟩
instance : TyI Tryz.prog 40 true 43 := ⟨by kernel_rfl, by kernel_rfl⟩
instance : FldI Tryz.prog 40 0 0 := ⟨by kernel_rfl⟩
instance : FldI Tryz.prog 40 1 37 := ⟨by kernel_rfl⟩
instance : FldI Tryz.prog 40 2 38 := ⟨by kernel_rfl⟩
instance : FldI Tryz.prog 40 3 39 := ⟨by kernel_rfl⟩
instance : FldI Tryz.prog 40 4 40 := ⟨by kernel_rfl⟩
instance : FldI Tryz.prog 40 5 41 := ⟨by kernel_rfl⟩
instance : FldI Tryz.prog 40 6 42 := ⟨by kernel_rfl⟩
instance : StrI Tryz.prog 40 [(0, 37), (37, 1), (38, 1), (39, 1), (40, 1), (41, 1), (42, 1)] := ⟨by kernel_rfl⟩
instance : ZeroI Tryz.prog 40 [(1, [.bool false]), (16, u8s (List.replicate 16 0)), (1, [.bool false]), (16, u8s (List.replicate 16 0)), (1, [.int .u16 0]), (1, [.int .u16 0]), (1, [.int .u8 0]), (1, [.int .u8 0]), (1, [.slice none 0 0]), (1, [.bool false]), (1, [.int .u8 0]), (1, [.int .u8 0]), (1, [.int .u8 0])] := ⟨by kernel_rfl, FOk.one1 rfl (FOk.bytes (by simp) (FOk.one1 rfl (FOk.bytes (by simp) (FOk.one1 rfl (FOk.one1 rfl (FOk.one1 rfl (FOk.one1 rfl (FOk.one1 rfl (FOk.one1 rfl (FOk.one1 rfl (FOk.one1 rfl (FOk.one1 rfl (FOk.nil)))))))))))))⟩
instance : TyI Tryz.prog 41 true 43 := ⟨by kernel_rfl, by kernel_rfl⟩
instance : FldI Tryz.prog 41 0 0 := ⟨by kernel_rfl⟩
instance : FldI Tryz.prog 41 1 37 := ⟨by kernel_rfl⟩
instance : FldI Tryz.prog 41 2 38 := ⟨by kernel_rfl⟩
instance : FldI Tryz.prog 41 3 39 := ⟨by kernel_rfl⟩
instance : FldI Tryz.prog 41 4 40 := ⟨by kernel_rfl⟩
instance : FldI Tryz.prog 41 5 41 := ⟨by kernel_rfl⟩
instance : FldI Tryz.prog 41 6 42 := ⟨by kernel_rfl⟩
instance : StrI Tryz.prog 41 [(0, 37), (37, 1), (38, 1), (39, 1), (40, 1), (41, 1), (42, 1)] := ⟨by kernel_rfl⟩
instance : ZeroI Tryz.prog 41 [(1, [.bool false]), (16, u8s (List.replicate 16 0)), (1, [.bool false]), (16, u8s (List.replicate 16 0)), (1, [.int .u16 0]), (1, [.int .u16 0]), (1, [.int .u8 0]), (1, [.int .u8 0]), (1, [.slice none 0 0]), (1, [.bool false]), (1, [.int .u8 0]), (1, [.int .u8 0]), (1, [.int .u8 0])] := ⟨by kernel_rfl, FOk.one1 rfl (FOk.bytes (by simp) (FOk.one1 rfl (FOk.bytes (by simp) (FOk.one1 rfl (FOk.one1 rfl (FOk.one1 rfl (FOk.one1 rfl (FOk.one1 rfl (FOk.one1 rfl (FOk.one1 rfl (FOk.one1 rfl (FOk.one1 rfl (FOk.nil)))))))))))))⟩
instance : TyI Tryz.prog 42 true 4 := ⟨by kernel_rfl, by kernel_rfl⟩
instance : FldI Tryz.prog 42 0 0 := ⟨by kernel_rfl⟩
instance : FldI Tryz.prog 42 1 1 := ⟨by kernel_rfl⟩
instance : FldI Tryz.prog 42 2 2 := ⟨by kernel_rfl⟩
instance : FldI Tryz.prog 42 3 3 := ⟨by kernel_rfl⟩
instance : StrI Tryz.prog 42 [(0, 1), (1, 1), (2, 1), (3, 1)] := ⟨by kernel_rfl⟩
instance : ZeroI Tryz.prog 42 [(1, [.int .i64 0]), (1, [.slice none 0 0]), (1, [.int .i64 0]), (1, [.int .i64 0])] := ⟨by kernel_rfl, FOk.one1 rfl (FOk.one1 rfl (FOk.one1 rfl (FOk.one1 rfl (FOk.nil))))⟩
instance : TyI Tryz.prog 43 true 4 := ⟨by kernel_rfl, by kernel_rfl⟩
instance : FldI Tryz.prog 43 0 0 := ⟨by kernel_rfl⟩
instance : FldI Tryz.prog 43 1 1 := ⟨by kernel_rfl⟩
instance : FldI Tryz.prog 43 2 2 := ⟨by kernel_rfl⟩
instance : FldI Tryz.prog 43 3 3 := ⟨by kernel_rfl⟩
instance : StrI Tryz.prog 43 [(0, 1), (1, 1), (2, 1), (3, 1)] := ⟨by kernel_rfl⟩
instance : ZeroI Tryz.prog 43 [(1, [.int .i64 0]), (1, [.slice none 0 0]), (1, [.int .i64 0]), (1, [.int .i64 0])] := ⟨by kernel_rfl, FOk.one1 rfl (FOk.one1 rfl (FOk.one1 rfl (FOk.one1 rfl (FOk.nil))))⟩
instance : TyI Tryz.prog 46 true 39 := ⟨by kernel_rfl, by kernel_rfl⟩
instance : FldI Tryz.prog 46 0 0 := ⟨by kernel_rfl⟩
instance : FldI Tryz.prog 46 1 1 := ⟨by kernel_rfl⟩
instance : FldI Tryz.prog 46 2 2 := ⟨by kernel_rfl⟩
instance : FldI Tryz.prog 46 3 3 := ⟨by kernel_rfl⟩
instance : FldI Tryz.prog 46 4 20 := ⟨by kernel_rfl⟩
instance : FldI Tryz.prog 46 5 37 := ⟨by kernel_rfl⟩
instance : FldI Tryz.prog 46 6 38 := ⟨by kernel_rfl⟩
instance : StrI Tryz.prog 46 [(0, 1), (1, 1), (2, 1), (3, 17), (20, 17), (37, 1), (38, 1)] := ⟨by kernel_rfl⟩
instance : EqI Tryz.prog 46 [none, some .u8, some .i64, none, some .u8, some .u8, some .u8, some .u8, some .u8, some .u8, some .u8, some .u8, some .u8, some .u8, some .u8, some .u8, some .u8, some .u8, some .u8, some .u8, none, some .u8, some .u8, some .u8, some .u8, some .u8, some .u8, some .u8, some .u8, some .u8, some .u8, some .u8, some .u8, some .u8, some .u8, some .u8, some .u8, none, some .u8] := ⟨⟨aggTy, by kernel_rfl, by kernel_rfl, by kernel_rfl⟩⟩
instance : ZeroI Tryz.prog 46 [(1, [.bool false]), (1, [.int .u8 0]), (1, [.int .i64 0]), (1, [.bool false]), (16, u8s (List.replicate 16 0)), (1, [.bool false]), (16, u8s (List.replicate 16 0)), (1, [.bool false]), (1, [.int .u8 0])] := ⟨by kernel_rfl, FOk.one1 rfl (FOk.one1 rfl (FOk.one1 rfl (FOk.one1 rfl (FOk.bytes (by simp) (FOk.one1 rfl (FOk.bytes (by simp) (FOk.one1 rfl (FOk.one1 rfl (FOk.nil)))))))))⟩
instance : TyI Tryz.prog 47 true 39 := ⟨by kernel_rfl, by kernel_rfl⟩
instance : FldI Tryz.prog 47 0 0 := ⟨by kernel_rfl⟩
instance : FldI Tryz.prog 47 1 1 := ⟨by kernel_rfl⟩
instance : FldI Tryz.prog 47 2 2 := ⟨by kernel_rfl⟩
instance : FldI Tryz.prog 47 3 3 := ⟨by kernel_rfl⟩
instance : FldI Tryz.prog 47 4 20 := ⟨by kernel_rfl⟩
instance : FldI Tryz.prog 47 5 37 := ⟨by kernel_rfl⟩
instance : FldI Tryz.prog 47 6 38 := ⟨by kernel_rfl⟩
instance : StrI Tryz.prog 47 [(0, 1), (1, 1), (2, 1), (3, 17), (20, 17), (37, 1), (38, 1)] := ⟨by kernel_rfl⟩
instance : EqI Tryz.prog 47 [none, some .u8, some .i64, none, some .u8, some .u8, some .u8, some .u8, some .u8, some .u8, some .u8, some .u8, some .u8, some .u8, some .u8, some .u8, some .u8, some .u8, some .u8, some .u8, none, some .u8, some .u8, some .u8, some .u8, some .u8, some .u8, some .u8, some .u8, some .u8, some .u8, some .u8, some .u8, some .u8, some .u8, some .u8, some .u8, none, some .u8] := ⟨⟨aggTy, by kernel_rfl, by kernel_rfl, by kernel_rfl⟩⟩
instance : ZeroI Tryz.prog 47 [(1, [.bool false]), (1, [.int .u8 0]), (1, [.int .i64 0]), (1, [.bool false]), (16, u8s (List.replicate 16 0)), (1, [.bool false]), (16, u8s (List.replicate 16 0)), (1, [.bool false]), (1, [.int .u8 0])] := ⟨by kernel_rfl, FOk.one1 rfl (FOk.one1 rfl (FOk.one1 rfl (FOk.one1 rfl (FOk.bytes (by simp) (FOk.one1 rfl (FOk.bytes (by simp) (FOk.one1 rfl (FOk.one1 rfl (FOk.nil)))))))))⟩
instance : TyI Tryz.prog 48 true 6 := ⟨by kernel_rfl, by kernel_rfl⟩
instance : FldI Tryz.prog 48 0 0 := ⟨by kernel_rfl⟩
instance : FldI Tryz.prog 48 1 1 := ⟨by kernel_rfl⟩
instance : FldI Tryz.prog 48 2 2 := ⟨by kernel_rfl⟩
instance : FldI Tryz.prog 48 3 3 := ⟨by kernel_rfl⟩
instance : FldI Tryz.prog 48 4 4 := ⟨by kernel_rfl⟩
instance : FldI Tryz.prog 48 5 5 := ⟨by kernel_rfl⟩
instance : StrI Tryz.prog 48 [(0, 1), (1, 1), (2, 1), (3, 1), (4, 1), (5, 1)] := ⟨by kernel_rfl⟩
instance : EqI Tryz.prog 48 [some .u16, some .u16, some .u8, some .i64, none, some .i64] := ⟨⟨aggTy, by kernel_rfl, by kernel_rfl, by kernel_rfl⟩⟩
instance : ZeroI Tryz.prog 48 [(1, [.int .u16 0]), (1, [.int .u16 0]), (1, [.int .u8 0]), (1, [.int .i64 0]), (1, [.bool false]), (1, [.int .i64 0])] := ⟨by kernel_rfl, FOk.one1 rfl (FOk.one1 rfl (FOk.one1 rfl (FOk.one1 rfl (FOk.one1 rfl (FOk.one1 rfl (FOk.nil))))))⟩
instance : TyI Tryz.prog 49 true 6 := ⟨by kernel_rfl, by kernel_rfl⟩
instance : FldI Tryz.prog 49 0 0 := ⟨by kernel_rfl⟩
instance : FldI Tryz.prog 49 1 1 := ⟨by kernel_rfl⟩
instance : FldI Tryz.prog 49 2 2 := ⟨by kernel_rfl⟩
instance : FldI Tryz.prog 49 3 3 := ⟨by kernel_rfl⟩
instance : FldI Tryz.prog 49 4 4 := ⟨by kernel_rfl⟩
instance : FldI Tryz.prog 49 5 5 := ⟨by kernel_rfl⟩
instance : StrI Tryz.prog 49 [(0, 1), (1, 1), (2, 1), (3, 1), (4, 1), (5, 1)] := ⟨by kernel_rfl⟩
instance : EqI Tryz.prog 49 [some .u16, some .u16, some .u8, some .i64, none, some .i64] := ⟨⟨aggTy, by kernel_rfl, by kernel_rfl, by kernel_rfl⟩⟩
instance : ZeroI Tryz.prog 49 [(1, [.int .u16 0]), (1, [.int .u16 0]), (1, [.int .u8 0]), (1, [.int .i64 0]), (1, [.bool false]), (1, [.int .i64 0])] := ⟨by kernel_rfl, FOk.one1 rfl (FOk.one1 rfl (FOk.one1 rfl (FOk.one1 rfl (FOk.one1 rfl (FOk.one1 rfl (FOk.nil))))))⟩
instance : TyI Tryz.prog 50 true 82 := ⟨by kernel_rfl, by kernel_rfl⟩
instance : FldI Tryz.prog 50 0 0 := ⟨by kernel_rfl⟩
instance : FldI Tryz.prog 50 1 39 := ⟨by kernel_rfl⟩
instance : FldI Tryz.prog 50 2 45 := ⟨by kernel_rfl⟩
instance : StrI Tryz.prog 50 [(0, 39), (39, 6), (45, 37)] := ⟨by kernel_rfl⟩
instance : EqI Tryz.prog 50 [none, some .u8, some .i64, none, some .u8, some .u8, some .u8, some .u8, some .u8, some .u8, some .u8, some .u8, some .u8, some .u8, some .u8, some .u8, some .u8, some .u8, some .u8, some .u8, none, some .u8, some .u8, some .u8, some .u8, some .u8, some .u8, some .u8, some .u8, some .u8, some .u8, some .u8, some .u8, some .u8, some .u8, some .u8, some .u8, none, some .u8, some .u16, some .u16, some .u8, some .i64, none, some .i64, none, some .u8, some .u8, some .u8, some .u8, some .u8, some .u8, some .u8, some .u8, some .u8, some .u8, some .u8, some .u8, some .u8, some .u8, some .u8, some .u8, none, some .u8, some .u8, some .u8, some .u8, some .u8, some .u8, some .u8, some .u8, some .u8, some .u8, some .u8, some .u8, some .u8, some .u8, some .u8, some .u8, some .u16, some .u16, some .u8] := ⟨⟨aggTy, by kernel_rfl, by kernel_rfl, by kernel_rfl⟩⟩
instance : ZeroI Tryz.prog 50 [(1, [.bool false]), (1, [.int .u8 0]), (1, [.int .i64 0]), (1, [.bool false]), (16, u8s (List.replicate 16 0)), (1, [.bool false]), (16, u8s (List.replicate 16 0)), (1, [.bool false]), (1, [.int .u8 0]), (1, [.int .u16 0]), (1, [.int .u16 0]), (1, [.int .u8 0]), (1, [.int .i64 0]), (1, [.bool false]), (1, [.int .i64 0]), (1, [.bool false]), (16, u8s (List.replicate 16 0)), (1, [.bool false]), (16, u8s (List.replicate 16 0)), (1, [.int .u16 0]), (1, [.int .u16 0]), (1, [.int .u8 0])] := ⟨by kernel_rfl, FOk.one1 rfl (FOk.one1 rfl (FOk.one1 rfl (FOk.one1 rfl (FOk.bytes (by simp) (FOk.one1 rfl (FOk.bytes (by simp) (FOk.one1 rfl (FOk.one1 rfl (FOk.one1 rfl (FOk.one1 rfl (FOk.one1 rfl (FOk.one1 rfl (FOk.one1 rfl (FOk.one1 rfl (FOk.one1 rfl (FOk.bytes (by simp) (FOk.one1 rfl (FOk.bytes (by simp) (FOk.one1 rfl (FOk.one1 rfl (FOk.one1 rfl (FOk.nil))))))))))))))))))))))⟩
instance : TyI Tryz.prog 51 true 82 := ⟨by kernel_rfl, by kernel_rfl⟩
instance : FldI Tryz.prog 51 0 0 := ⟨by kernel_rfl⟩
instance : FldI Tryz.prog 51 1 39 := ⟨by kernel_rfl⟩
instance : FldI Tryz.prog 51 2 45 := ⟨by kernel_rfl⟩
instance : StrI Tryz.prog 51 [(0, 39), (39, 6), (45, 37)] := ⟨by kernel_rfl⟩
instance : EqI Tryz.prog 51 [none, some .u8, some .i64, none, some .u8, some .u8, some .u8, some .u8, some .u8, some .u8, some .u8, some .u8, some .u8, some .u8, some .u8, some .u8, some .u8, some .u8, some .u8, some .u8, none, some .u8, some .u8, some .u8, some .u8, some .u8, some .u8, some .u8, some .u8, some .u8, some .u8, some .u8, some .u8, some .u8, some .u8, some .u8, some .u8, none, some .u8, some .u16, some .u16, some .u8, some .i64, none, some .i64, none, some .u8, some .u8, some .u8, some .u8, some .u8, some .u8, some .u8, some .u8, some .u8, some .u8, some .u8, some .u8, some .u8, some .u8, some .u8, some .u8, none, some .u8, some .u8, some .u8, some .u8, some .u8, some .u8, some .u8, some .u8, some .u8, some .u8, some .u8, some .u8, some .u8, some .u8, some .u8, some .u8, some .u16, some .u16, some .u8] := ⟨⟨aggTy, by kernel_rfl, by kernel_rfl, by kernel_rfl⟩⟩
instance : ZeroI Tryz.prog 51 [(1, [.bool false]), (1, [.int .u8 0]), (1, [.int .i64 0]), (1, [.bool false]), (16, u8s (List.replicate 16 0)), (1, [.bool false]), (16, u8s (List.replicate 16 0)), (1, [.bool false]), (1, [.int .u8 0]), (1, [.int .u16 0]), (1, [.int .u16 0]), (1, [.int .u8 0]), (1, [.int .i64 0]), (1, [.bool false]), (1, [.int .i64 0]), (1, [.bool false]), (16, u8s (List.replicate 16 0)), (1, [.bool false]), (16, u8s (List.replicate 16 0)), (1, [.int .u16 0]), (1, [.int .u16 0]), (1, [.int .u8 0])] := ⟨by kernel_rfl, FOk.one1 rfl (FOk.one1 rfl (FOk.one1 rfl (FOk.one1 rfl (FOk.bytes (by simp) (FOk.one1 rfl (FOk.bytes (by simp) (FOk.one1 rfl (FOk.one1 rfl (FOk.one1 rfl (FOk.one1 rfl (FOk.one1 rfl (FOk.one1 rfl (FOk.one1 rfl (FOk.one1 rfl (FOk.one1 rfl (FOk.bytes (by simp) (FOk.one1 rfl (FOk.bytes (by simp) (FOk.one1 rfl (FOk.one1 rfl (FOk.one1 rfl (FOk.nil))))))))))))))))))))))⟩
instance : TyI Tryz.prog 55 true 18 := ⟨by kernel_rfl, by kernel_rfl⟩
instance : FldI Tryz.prog 55 0 0 := ⟨by kernel_rfl⟩
instance : FldI Tryz.prog 55 1 17 := ⟨by kernel_rfl⟩
instance : StrI Tryz.prog 55 [(0, 17), (17, 1)] := ⟨by kernel_rfl⟩
instance : EqI Tryz.prog 55 [none, some .u8, some .u8, some .u8, some .u8, some .u8, some .u8, some .u8, some .u8, some .u8, some .u8, some .u8, some .u8, some .u8, some .u8, some .u8, some .u8, some .i64] := ⟨⟨aggTy, by kernel_rfl, by kernel_rfl, by kernel_rfl⟩⟩
instance : ZeroI Tryz.prog 55 [(1, [.bool false]), (16, u8s (List.replicate 16 0)), (1, [.int .i64 0])] := ⟨by kernel_rfl, FOk.one1 rfl (FOk.bytes (by simp) (FOk.one1 rfl (FOk.nil)))⟩
instance : TyI Tryz.prog 56 true 18 := ⟨by kernel_rfl, by kernel_rfl⟩
instance : FldI Tryz.prog 56 0 0 := ⟨by kernel_rfl⟩
instance : FldI Tryz.prog 56 1 17 := ⟨by kernel_rfl⟩
instance : StrI Tryz.prog 56 [(0, 17), (17, 1)] := ⟨by kernel_rfl⟩
instance : EqI Tryz.prog 56 [none, some .u8, some .u8, some .u8, some .u8, some .u8, some .u8, some .u8, some .u8, some .u8, some .u8, some .u8, some .u8, some .u8, some .u8, some .u8, some .u8, some .i64] := ⟨⟨aggTy, by kernel_rfl, by kernel_rfl, by kernel_rfl⟩⟩
instance : ZeroI Tryz.prog 56 [(1, [.bool false]), (16, u8s (List.replicate 16 0)), (1, [.int .i64 0])] := ⟨by kernel_rfl, FOk.one1 rfl (FOk.bytes (by simp) (FOk.one1 rfl (FOk.nil)))⟩
instance : TyI Tryz.prog 57 true 40 := ⟨by kernel_rfl, by kernel_rfl⟩
instance : FldI Tryz.prog 57 0 0 := ⟨by kernel_rfl⟩
instance : FldI Tryz.prog 57 1 18 := ⟨by kernel_rfl⟩
instance : FldI Tryz.prog 57 2 36 := ⟨by kernel_rfl⟩
instance : FldI Tryz.prog 57 3 37 := ⟨by kernel_rfl⟩
instance : FldI Tryz.prog 57 4 38 := ⟨by kernel_rfl⟩
instance : FldI Tryz.prog 57 5 39 := ⟨by kernel_rfl⟩
instance : StrI Tryz.prog 57 [(0, 18), (18, 18), (36, 1), (37, 1), (38, 1), (39, 1)] := ⟨by kernel_rfl⟩
instance : EqI Tryz.prog 57 [none, some .u8, some .u8, some .u8, some .u8, some .u8, some .u8, some .u8, some .u8, some .u8, some .u8, some .u8, some .u8, some .u8, some .u8, some .u8, some .u8, some .i64, none, some .u8, some .u8, some .u8, some .u8, some .u8, some .u8, some .u8, some .u8, some .u8, some .u8, some .u8, some .u8, some .u8, some .u8, some .u8, some .u8, some .i64, some .u8, some .u16, some .u16, none] := ⟨⟨aggTy, by kernel_rfl, by kernel_rfl, by kernel_rfl⟩⟩
instance : ZeroI Tryz.prog 57 [(1, [.bool false]), (16, u8s (List.replicate 16 0)), (1, [.int .i64 0]), (1, [.bool false]), (16, u8s (List.replicate 16 0)), (1, [.int .i64 0]), (1, [.int .u8 0]), (1, [.int .u16 0]), (1, [.int .u16 0]), (1, [.bool false])] := ⟨by kernel_rfl, FOk.one1 rfl (FOk.bytes (by simp) (FOk.one1 rfl (FOk.one1 rfl (FOk.bytes (by simp) (FOk.one1 rfl (FOk.one1 rfl (FOk.one1 rfl (FOk.one1 rfl (FOk.one1 rfl (FOk.nil))))))))))⟩
instance : TyI Tryz.prog 58 true 40 := ⟨by kernel_rfl, by kernel_rfl⟩
instance : FldI Tryz.prog 58 0 0 := ⟨by kernel_rfl⟩
instance : FldI Tryz.prog 58 1 18 := ⟨by kernel_rfl⟩
instance : FldI Tryz.prog 58 2 36 := ⟨by kernel_rfl⟩
instance : FldI Tryz.prog 58 3 37 := ⟨by kernel_rfl⟩
instance : FldI Tryz.prog 58 4 38 := ⟨by kernel_rfl⟩
instance : FldI Tryz.prog 58 5 39 := ⟨by kernel_rfl⟩
instance : StrI Tryz.prog 58 [(0, 18), (18, 18), (36, 1), (37, 1), (38, 1), (39, 1)] := ⟨by kernel_rfl⟩
instance : EqI Tryz.prog 58 [none, some .u8, some .u8, some .u8, some .u8, some .u8, some .u8, some .u8, some .u8, some .u8, some .u8, some .u8, some .u8, some .u8, some .u8, some .u8, some .u8, some .i64, none, some .u8, some .u8, some .u8, some .u8, some .u8, some .u8, some .u8, some .u8, some .u8, some .u8, some .u8, some .u8, some .u8, some .u8, some .u8, some .u8, some .i64, some .u8, some .u16, some .u16, none] := ⟨⟨aggTy, by kernel_rfl, by kernel_rfl, by kernel_rfl⟩⟩
instance : ZeroI Tryz.prog 58 [(1, [.bool false]), (16, u8s (List.replicate 16 0)), (1, [.int .i64 0]), (1, [.bool false]), (16, u8s (List.replicate 16 0)), (1, [.int .i64 0]), (1, [.int .u8 0]), (1, [.int .u16 0]), (1, [.int .u16 0]), (1, [.bool false])] := ⟨by kernel_rfl, FOk.one1 rfl (FOk.bytes (by simp) (FOk.one1 rfl (FOk.one1 rfl (FOk.bytes (by simp) (FOk.one1 rfl (FOk.one1 rfl (FOk.one1 rfl (FOk.one1 rfl (FOk.one1 rfl (FOk.nil))))))))))⟩
instance : TyI Tryz.prog 60 true 2 := ⟨by kernel_rfl, by kernel_rfl⟩
instance : ArrI Tryz.prog 60 2 32 := ⟨by kernel_rfl⟩
instance : EqI Tryz.prog 60 [some .u64, some .u64] := ⟨⟨aggTy, by kernel_rfl, by kernel_rfl, by kernel_rfl⟩⟩
instance : ZeroI Tryz.prog 60 [(2, List.replicate 2 (.int .u64 0))] := ⟨by kernel_rfl, FOk.seg (by simp) (fun v h => by rw [List.eq_of_mem_replicate h]; rfl) (FOk.nil)⟩
instance : TyI Tryz.prog 61 true 2 := ⟨by kernel_rfl, by kernel_rfl⟩
instance : ArrI Tryz.prog 61 2 4 := ⟨by kernel_rfl⟩
instance : EqI Tryz.prog 61 [none, none] := ⟨⟨aggTy, by kernel_rfl, by kernel_rfl, by kernel_rfl⟩⟩
instance : ZeroI Tryz.prog 61 [(2, List.replicate 2 (.bool false))] := ⟨by kernel_rfl, FOk.seg (by simp) (fun v h => by rw [List.eq_of_mem_replicate h]; rfl) (FOk.nil)⟩
instance : TyI Tryz.prog 63 true 6 := ⟨by kernel_rfl, by kernel_rfl⟩
instance : FldI Tryz.prog 63 0 0 := ⟨by kernel_rfl⟩
instance : FldI Tryz.prog 63 1 1 := ⟨by kernel_rfl⟩
instance : FldI Tryz.prog 63 2 4 := ⟨by kernel_rfl⟩
instance : FldI Tryz.prog 63 3 5 := ⟨by kernel_rfl⟩
instance : StrI Tryz.prog 63 [(0, 1), (1, 3), (4, 1), (5, 1)] := ⟨by kernel_rfl⟩
instance : ZeroI Tryz.prog 63 [(1, [.slice none 0 0]), (1, [.int .i64 0]), (1, [.int .i64 0]), (1, [.int .i64 0]), (1, [.int .i64 0]), (1, [.int .i64 0])] := ⟨by kernel_rfl, FOk.one1 rfl (FOk.one1 rfl (FOk.one1 rfl (FOk.one1 rfl (FOk.one1 rfl (FOk.one1 rfl (FOk.nil))))))⟩
instance : TyI Tryz.prog 64 true 6 := ⟨by kernel_rfl, by kernel_rfl⟩
instance : FldI Tryz.prog 64 0 0 := ⟨by kernel_rfl⟩
instance : FldI Tryz.prog 64 1 1 := ⟨by kernel_rfl⟩
instance : FldI Tryz.prog 64 2 4 := ⟨by kernel_rfl⟩
instance : FldI Tryz.prog 64 3 5 := ⟨by kernel_rfl⟩
instance : StrI Tryz.prog 64 [(0, 1), (1, 3), (4, 1), (5, 1)] := ⟨by kernel_rfl⟩
instance : ZeroI Tryz.prog 64 [(1, [.slice none 0 0]), (1, [.int .i64 0]), (1, [.int .i64 0]), (1, [.int .i64 0]), (1, [.int .i64 0]), (1, [.int .i64 0])] := ⟨by kernel_rfl, FOk.one1 rfl (FOk.one1 rfl (FOk.one1 rfl (FOk.one1 rfl (FOk.one1 rfl (FOk.one1 rfl (FOk.nil))))))⟩
instance : TyI Tryz.prog 66 false 1 := ⟨by kernel_rfl, by kernel_rfl⟩
instance : ZeroI Tryz.prog 66 [(1, [.pointer none])] := ⟨by kernel_rfl, FOk.one1 rfl (FOk.nil)⟩
instance : TyI Tryz.prog 69 false 1 := ⟨by kernel_rfl, by kernel_rfl⟩
instance : ZeroI Tryz.prog 69 [(1, [.pointer none])] := ⟨by kernel_rfl, FOk.one1 rfl (FOk.nil)⟩
instance : TyI Tryz.prog 70 false 1 := ⟨by kernel_rfl, by kernel_rfl⟩
instance : ZeroI Tryz.prog 70 [(1, [.pointer none])] := ⟨by kernel_rfl, FOk.one1 rfl (FOk.nil)⟩
instance : TyI Tryz.prog 71 false 1 := ⟨by kernel_rfl, by kernel_rfl⟩
instance : ZeroI Tryz.prog 71 [(1, [.pointer none])] := ⟨by kernel_rfl, FOk.one1 rfl (FOk.nil)⟩
instance : TyI Tryz.prog 72 true 6 := ⟨by kernel_rfl, by kernel_rfl⟩
instance : FldI Tryz.prog 72 0 0 := ⟨by kernel_rfl⟩
instance : FldI Tryz.prog 72 1 1 := ⟨by kernel_rfl⟩
instance : FldI Tryz.prog 72 2 2 := ⟨by kernel_rfl⟩
instance : FldI Tryz.prog 72 3 3 := ⟨by kernel_rfl⟩
instance : FldI Tryz.prog 72 4 4 := ⟨by kernel_rfl⟩
instance : FldI Tryz.prog 72 5 5 := ⟨by kernel_rfl⟩
instance : StrI Tryz.prog 72 [(0, 1), (1, 1), (2, 1), (3, 1), (4, 1), (5, 1)] := ⟨by kernel_rfl⟩
instance : ZeroI Tryz.prog 72 [(1, [.slice none 0 0]), (1, [.pointer none]), (1, [.pointer none]), (1, [.pointer none]), (1, [.int .i64 0]), (1, [.int .i64 0])] := ⟨by kernel_rfl, FOk.one1 rfl (FOk.one1 rfl (FOk.one1 rfl (FOk.one1 rfl (FOk.one1 rfl (FOk.one1 rfl (FOk.nil))))))⟩
instance : TyI Tryz.prog 73 true 6 := ⟨by kernel_rfl, by kernel_rfl⟩
instance : FldI Tryz.prog 73 0 0 := ⟨by kernel_rfl⟩
instance : FldI Tryz.prog 73 1 1 := ⟨by kernel_rfl⟩
instance : FldI Tryz.prog 73 2 2 := ⟨by kernel_rfl⟩
instance : FldI Tryz.prog 73 3 3 := ⟨by kernel_rfl⟩
instance : FldI Tryz.prog 73 4 4 := ⟨by kernel_rfl⟩
instance : FldI Tryz.prog 73 5 5 := ⟨by kernel_rfl⟩
instance : StrI Tryz.prog 73 [(0, 1), (1, 1), (2, 1), (3, 1), (4, 1), (5, 1)] := ⟨by kernel_rfl⟩
instance : ZeroI Tryz.prog 73 [(1, [.slice none 0 0]), (1, [.pointer none]), (1, [.pointer none]), (1, [.pointer none]), (1, [.int .i64 0]), (1, [.int .i64 0])] := ⟨by kernel_rfl, FOk.one1 rfl (FOk.one1 rfl (FOk.one1 rfl (FOk.one1 rfl (FOk.one1 rfl (FOk.one1 rfl (FOk.nil))))))⟩
instance : TyI Tryz.prog 75 false 1 := ⟨by kernel_rfl, by kernel_rfl⟩
instance : SliI Tryz.prog 75 168 := ⟨by kernel_rfl⟩
instance : ZeroI Tryz.prog 75 [(1, [.slice none 0 0])] := ⟨by kernel_rfl, FOk.one1 rfl (FOk.nil)⟩
instance : TyI Tryz.prog 76 true 1 := ⟨by kernel_rfl, by kernel_rfl⟩
instance : FldI Tryz.prog 76 0 0 := ⟨by kernel_rfl⟩
instance : StrI Tryz.prog 76 [(0, 1)] := ⟨by kernel_rfl⟩
instance : ZeroI Tryz.prog 76 [(1, [.slice none 0 0])] := ⟨by kernel_rfl, FOk.one1 rfl (FOk.nil)⟩
instance : TyI Tryz.prog 77 true 1 := ⟨by kernel_rfl, by kernel_rfl⟩
instance : FldI Tryz.prog 77 0 0 := ⟨by kernel_rfl⟩
instance : StrI Tryz.prog 77 [(0, 1)] := ⟨by kernel_rfl⟩
instance : ZeroI Tryz.prog 77 [(1, [.slice none 0 0])] := ⟨by kernel_rfl, FOk.one1 rfl (FOk.nil)⟩
instance : TyI Tryz.prog 79 false 1 := ⟨by kernel_rfl, by kernel_rfl⟩
instance : SliI Tryz.prog 79 127 := ⟨by kernel_rfl⟩
instance : ZeroI Tryz.prog 79 [(1, [.slice none 0 0])] := ⟨by kernel_rfl, FOk.one1 rfl (FOk.nil)⟩
instance : TyI Tryz.prog 81 true 3 := ⟨by kernel_rfl, by kernel_rfl⟩
instance : FldI Tryz.prog 81 0 0 := ⟨by kernel_rfl⟩
instance : FldI Tryz.prog 81 1 1 := ⟨by kernel_rfl⟩
instance : FldI Tryz.prog 81 2 2 := ⟨by kernel_rfl⟩
instance : StrI Tryz.prog 81 [(0, 1), (1, 1), (2, 1)] := ⟨by kernel_rfl⟩
instance : ZeroI Tryz.prog 81 [(1, [.int .i64 0]), (1, [.slice none 0 0]), (1, [.int .u64 0])] := ⟨by kernel_rfl, FOk.one1 rfl (FOk.one1 rfl (FOk.one1 rfl (FOk.nil)))⟩
instance : TyI Tryz.prog 82 true 3 := ⟨by kernel_rfl, by kernel_rfl⟩
instance : FldI Tryz.prog 82 0 0 := ⟨by kernel_rfl⟩
instance : FldI Tryz.prog 82 1 1 := ⟨by kernel_rfl⟩
instance : FldI Tryz.prog 82 2 2 := ⟨by kernel_rfl⟩
instance : StrI Tryz.prog 82 [(0, 1), (1, 1), (2, 1)] := ⟨by kernel_rfl⟩
instance : ZeroI Tryz.prog 82 [(1, [.int .i64 0]), (1, [.slice none 0 0]), (1, [.int .u64 0])] := ⟨by kernel_rfl, FOk.one1 rfl (FOk.one1 rfl (FOk.one1 rfl (FOk.nil)))⟩
instance : TyI Tryz.prog 87 false 1 := ⟨by kernel_rfl, by kernel_rfl⟩
instance : ZeroI Tryz.prog 87 [(1, [.pointer none])] := ⟨by kernel_rfl, FOk.one1 rfl (FOk.nil)⟩
instance : TyI Tryz.prog 90 false 1 := ⟨by kernel_rfl, by kernel_rfl⟩
instance : ZeroI Tryz.prog 90 [(1, [.pointer none])] := ⟨by kernel_rfl, FOk.one1 rfl (FOk.nil)⟩
instance : TyI Tryz.prog 93 false 1 := ⟨by kernel_rfl, by kernel_rfl⟩
instance : ZeroI Tryz.prog 93 [(1, [.pointer none])] := ⟨by kernel_rfl, FOk.one1 rfl (FOk.nil)⟩
instance : TyI Tryz.prog 95 true 6 := ⟨by kernel_rfl, by kernel_rfl⟩
instance : FldI Tryz.prog 95 0 0 := ⟨by kernel_rfl⟩
instance : FldI Tryz.prog 95 1 1 := ⟨by kernel_rfl⟩
instance : FldI Tryz.prog 95 2 2 := ⟨by kernel_rfl⟩
instance : FldI Tryz.prog 95 3 3 := ⟨by kernel_rfl⟩
instance : FldI Tryz.prog 95 4 4 := ⟨by kernel_rfl⟩
instance : FldI Tryz.prog 95 5 5 := ⟨by kernel_rfl⟩
instance : StrI Tryz.prog 95 [(0, 1), (1, 1), (2, 1), (3, 1), (4, 1), (5, 1)] := ⟨by kernel_rfl⟩
instance : ZeroI Tryz.prog 95 [(1, [.pointer none]), (1, [.pointer none]), (1, [.pointer none]), (1, [.slice none 0 0]), (1, [.int .i64 0]), (1, [.int .i64 0])] := ⟨by kernel_rfl, FOk.one1 rfl (FOk.one1 rfl (FOk.one1 rfl (FOk.one1 rfl (FOk.one1 rfl (FOk.one1 rfl (FOk.nil))))))⟩
instance : TyI Tryz.prog 96 true 6 := ⟨by kernel_rfl, by kernel_rfl⟩
instance : FldI Tryz.prog 96 0 0 := ⟨by kernel_rfl⟩
instance : FldI Tryz.prog 96 1 1 := ⟨by kernel_rfl⟩
instance : FldI Tryz.prog 96 2 2 := ⟨by kernel_rfl⟩
instance : FldI Tryz.prog 96 3 3 := ⟨by kernel_rfl⟩
instance : FldI Tryz.prog 96 4 4 := ⟨by kernel_rfl⟩
instance : FldI Tryz.prog 96 5 5 := ⟨by kernel_rfl⟩
instance : StrI Tryz.prog 96 [(0, 1), (1, 1), (2, 1), (3, 1), (4, 1), (5, 1)] := ⟨by kernel_rfl⟩
instance : ZeroI Tryz.prog 96 [(1, [.pointer none]), (1, [.pointer none]), (1, [.pointer none]), (1, [.slice none 0 0]), (1, [.int .i64 0]), (1, [.int .i64 0])] := ⟨by kernel_rfl, FOk.one1 rfl (FOk.one1 rfl (FOk.one1 rfl (FOk.one1 rfl (FOk.one1 rfl (FOk.one1 rfl (FOk.nil))))))⟩
instance : TyI Tryz.prog 110 false 1 := ⟨by kernel_rfl, by kernel_rfl⟩
instance : SliI Tryz.prog 110 39 := ⟨by kernel_rfl⟩
instance : ZeroI Tryz.prog 110 [(1, [.slice none 0 0])] := ⟨by kernel_rfl, FOk.one1 rfl (FOk.nil)⟩
instance : TyI Tryz.prog 119 false 1 := ⟨by kernel_rfl, by kernel_rfl⟩
instance : SliI Tryz.prog 119 175 := ⟨by kernel_rfl⟩
instance : ZeroI Tryz.prog 119 [(1, [.slice none 0 0])] := ⟨by kernel_rfl, FOk.one1 rfl (FOk.nil)⟩
instance : TyI Tryz.prog 120 true 4 := ⟨by kernel_rfl, by kernel_rfl⟩
instance : FldI Tryz.prog 120 0 0 := ⟨by kernel_rfl⟩
instance : FldI Tryz.prog 120 1 3 := ⟨by kernel_rfl⟩
instance : StrI Tryz.prog 120 [(0, 3), (3, 1)] := ⟨by kernel_rfl⟩
instance : ZeroI Tryz.prog 120 [(1, [.int .i64 0]), (1, [.int .i64 0]), (1, [.int .i64 0]), (1, [.slice none 0 0])] := ⟨by kernel_rfl, FOk.one1 rfl (FOk.one1 rfl (FOk.one1 rfl (FOk.one1 rfl (FOk.nil))))⟩
instance : TyI Tryz.prog 121 true 4 := ⟨by kernel_rfl, by kernel_rfl⟩
instance : FldI Tryz.prog 121 0 0 := ⟨by kernel_rfl⟩
instance : FldI Tryz.prog 121 1 3 := ⟨by kernel_rfl⟩
instance : StrI Tryz.prog 121 [(0, 3), (3, 1)] := ⟨by kernel_rfl⟩
instance : ZeroI Tryz.prog 121 [(1, [.int .i64 0]), (1, [.int .i64 0]), (1, [.int .i64 0]), (1, [.slice none 0 0])] := ⟨by kernel_rfl, FOk.one1 rfl (FOk.one1 rfl (FOk.one1 rfl (FOk.one1 rfl (FOk.nil))))⟩
instance : TyI Tryz.prog 126 true 20 := ⟨by kernel_rfl, by kernel_rfl⟩
instance : FldI Tryz.prog 126 0 0 := ⟨by kernel_rfl⟩
instance : FldI Tryz.prog 126 1 18 := ⟨by kernel_rfl⟩
instance : FldI Tryz.prog 126 2 19 := ⟨by kernel_rfl⟩
instance : StrI Tryz.prog 126 [(0, 18), (18, 1), (19, 1)] := ⟨by kernel_rfl⟩
instance : EqI Tryz.prog 126 [none, some .u8, some .u8, some .u8, some .u8, some .u8, some .u8, some .u8, some .u8, some .u8, some .u8, some .u8, some .u8, some .u8, some .u8, some .u8, some .u8, some .i64, some .u64, some .u64] := ⟨⟨aggTy, by kernel_rfl, by kernel_rfl, by kernel_rfl⟩⟩
instance : ZeroI Tryz.prog 126 [(1, [.bool false]), (16, u8s (List.replicate 16 0)), (1, [.int .i64 0]), (1, [.int .u64 0]), (1, [.int .u64 0])] := ⟨by kernel_rfl, FOk.one1 rfl (FOk.bytes (by simp) (FOk.one1 rfl (FOk.one1 rfl (FOk.one1 rfl (FOk.nil)))))⟩
instance : TyI Tryz.prog 127 true 20 := ⟨by kernel_rfl, by kernel_rfl⟩
instance : FldI Tryz.prog 127 0 0 := ⟨by kernel_rfl⟩
instance : FldI Tryz.prog 127 1 18 := ⟨by kernel_rfl⟩
instance : FldI Tryz.prog 127 2 19 := ⟨by kernel_rfl⟩
instance : StrI Tryz.prog 127 [(0, 18), (18, 1), (19, 1)] := ⟨by kernel_rfl⟩
instance : EqI Tryz.prog 127 [none, some .u8, some .u8, some .u8, some .u8, some .u8, some .u8, some .u8, some .u8, some .u8, some .u8, some .u8, some .u8, some .u8, some .u8, some .u8, some .u8, some .i64, some .u64, some .u64] := ⟨⟨aggTy, by kernel_rfl, by kernel_rfl, by kernel_rfl⟩⟩
instance : ZeroI Tryz.prog 127 [(1, [.bool false]), (16, u8s (List.replicate 16 0)), (1, [.int .i64 0]), (1, [.int .u64 0]), (1, [.int .u64 0])] := ⟨by kernel_rfl, FOk.one1 rfl (FOk.bytes (by simp) (FOk.one1 rfl (FOk.one1 rfl (FOk.one1 rfl (FOk.nil)))))⟩
instance : TyI Tryz.prog 129 false 1 := ⟨by kernel_rfl, by kernel_rfl⟩
instance : ZeroI Tryz.prog 129 [(1, [.map none])] := ⟨by kernel_rfl, FOk.one1 rfl (FOk.nil)⟩
instance : TyI Tryz.prog 130 false 1 := ⟨by kernel_rfl, by kernel_rfl⟩
instance : ZeroI Tryz.prog 130 [(1, [.pointer none])] := ⟨by kernel_rfl, FOk.one1 rfl (FOk.nil)⟩
instance : TyI Tryz.prog 131 true 2 := ⟨by kernel_rfl, by kernel_rfl⟩
instance : FldI Tryz.prog 131 0 0 := ⟨by kernel_rfl⟩
instance : FldI Tryz.prog 131 1 1 := ⟨by kernel_rfl⟩
instance : StrI Tryz.prog 131 [(0, 1), (1, 1)] := ⟨by kernel_rfl⟩
instance : ZeroI Tryz.prog 131 [(1, [.pointer none]), (1, [.pointer none])] := ⟨by kernel_rfl, FOk.one1 rfl (FOk.one1 rfl (FOk.nil))⟩
instance : TyI Tryz.prog 132 true 2 := ⟨by kernel_rfl, by kernel_rfl⟩
instance : FldI Tryz.prog 132 0 0 := ⟨by kernel_rfl⟩
instance : FldI Tryz.prog 132 1 1 := ⟨by kernel_rfl⟩
instance : StrI Tryz.prog 132 [(0, 1), (1, 1)] := ⟨by kernel_rfl⟩
instance : ZeroI Tryz.prog 132 [(1, [.pointer none]), (1, [.pointer none])] := ⟨by kernel_rfl, FOk.one1 rfl (FOk.one1 rfl (FOk.nil))⟩
instance : TyI Tryz.prog 133 true 6 := ⟨by kernel_rfl, by kernel_rfl⟩
instance : FldI Tryz.prog 133 0 0 := ⟨by kernel_rfl⟩
instance : FldI Tryz.prog 133 1 2 := ⟨by kernel_rfl⟩
instance : FldI Tryz.prog 133 2 5 := ⟨by kernel_rfl⟩
instance : StrI Tryz.prog 133 [(0, 2), (2, 3), (5, 1)] := ⟨by kernel_rfl⟩
instance : ZeroI Tryz.prog 133 [(1, [.pointer none]), (1, [.pointer none]), (1, [.int .i64 0]), (1, [.int .i64 0]), (1, [.int .i64 0]), (1, [.map none])] := ⟨by kernel_rfl, FOk.one1 rfl (FOk.one1 rfl (FOk.one1 rfl (FOk.one1 rfl (FOk.one1 rfl (FOk.one1 rfl (FOk.nil))))))⟩
instance : TyI Tryz.prog 134 true 6 := ⟨by kernel_rfl, by kernel_rfl⟩
instance : FldI Tryz.prog 134 0 0 := ⟨by kernel_rfl⟩
instance : FldI Tryz.prog 134 1 2 := ⟨by kernel_rfl⟩
instance : FldI Tryz.prog 134 2 5 := ⟨by kernel_rfl⟩
instance : StrI Tryz.prog 134 [(0, 2), (2, 3), (5, 1)] := ⟨by kernel_rfl⟩
instance : ZeroI Tryz.prog 134 [(1, [.pointer none]), (1, [.pointer none]), (1, [.int .i64 0]), (1, [.int .i64 0]), (1, [.int .i64 0]), (1, [.map none])] := ⟨by kernel_rfl, FOk.one1 rfl (FOk.one1 rfl (FOk.one1 rfl (FOk.one1 rfl (FOk.one1 rfl (FOk.one1 rfl (FOk.nil))))))⟩
instance : TyI Tryz.prog 135 false 1 := ⟨by kernel_rfl, by kernel_rfl⟩
instance : ZeroI Tryz.prog 135 [(1, [.map none])] := ⟨by kernel_rfl, FOk.one1 rfl (FOk.nil)⟩
instance : TyI Tryz.prog 136 true 3 := ⟨by kernel_rfl, by kernel_rfl⟩
instance : FldI Tryz.prog 136 0 0 := ⟨by kernel_rfl⟩
instance : FldI Tryz.prog 136 1 1 := ⟨by kernel_rfl⟩
instance : FldI Tryz.prog 136 2 2 := ⟨by kernel_rfl⟩
instance : StrI Tryz.prog 136 [(0, 1), (1, 1), (2, 1)] := ⟨by kernel_rfl⟩
instance : ZeroI Tryz.prog 136 [(1, [.int .i64 0]), (1, [.map none]), (1, [.int .u64 0])] := ⟨by kernel_rfl, FOk.one1 rfl (FOk.one1 rfl (FOk.one1 rfl (FOk.nil)))⟩
instance : TyI Tryz.prog 137 true 3 := ⟨by kernel_rfl, by kernel_rfl⟩
instance : FldI Tryz.prog 137 0 0 := ⟨by kernel_rfl⟩
instance : FldI Tryz.prog 137 1 1 := ⟨by kernel_rfl⟩
instance : FldI Tryz.prog 137 2 2 := ⟨by kernel_rfl⟩
instance : StrI Tryz.prog 137 [(0, 1), (1, 1), (2, 1)] := ⟨by kernel_rfl⟩
instance : ZeroI Tryz.prog 137 [(1, [.int .i64 0]), (1, [.map none]), (1, [.int .u64 0])] := ⟨by kernel_rfl, FOk.one1 rfl (FOk.one1 rfl (FOk.one1 rfl (FOk.nil)))⟩
instance : TyI Tryz.prog 138 false 1 := ⟨by kernel_rfl, by kernel_rfl⟩
instance : ZeroI Tryz.prog 138 [(1, [.map none])] := ⟨by kernel_rfl, FOk.one1 rfl (FOk.nil)⟩
instance : TyI Tryz.prog 139 true 1 := ⟨by kernel_rfl, by kernel_rfl⟩
instance : FldI Tryz.prog 139 0 0 := ⟨by kernel_rfl⟩
instance : StrI Tryz.prog 139 [(0, 1)] := ⟨by kernel_rfl⟩
instance : ZeroI Tryz.prog 139 [(1, [.map none])] := ⟨by kernel_rfl, FOk.one1 rfl (FOk.nil)⟩
instance : TyI Tryz.prog 140 true 1 := ⟨by kernel_rfl, by kernel_rfl⟩
instance : FldI Tryz.prog 140 0 0 := ⟨by kernel_rfl⟩
instance : StrI Tryz.prog 140 [(0, 1)] := ⟨by kernel_rfl⟩
instance : ZeroI Tryz.prog 140 [(1, [.map none])] := ⟨by kernel_rfl, FOk.one1 rfl (FOk.nil)⟩
instance : TyI Tryz.prog 144 false 1 := ⟨by kernel_rfl, by kernel_rfl⟩
instance : IntI Tryz.prog 144 .u64 := ⟨by kernel_rfl⟩
instance : ZeroI Tryz.prog 144 [(1, [.int .u64 0])] := ⟨by kernel_rfl, FOk.one1 rfl (FOk.nil)⟩
instance : TyI Tryz.prog 149 true 22 := ⟨by kernel_rfl, by kernel_rfl⟩
instance : FldI Tryz.prog 149 0 0 := ⟨by kernel_rfl⟩
instance : FldI Tryz.prog 149 1 18 := ⟨by kernel_rfl⟩
instance : FldI Tryz.prog 149 2 19 := ⟨by kernel_rfl⟩
instance : FldI Tryz.prog 149 3 20 := ⟨by kernel_rfl⟩
instance : FldI Tryz.prog 149 4 21 := ⟨by kernel_rfl⟩
instance : StrI Tryz.prog 149 [(0, 18), (18, 1), (19, 1), (20, 1), (21, 1)] := ⟨by kernel_rfl⟩
instance : ZeroI Tryz.prog 149 [(1, [.bool false]), (16, u8s (List.replicate 16 0)), (1, [.int .i64 0]), (1, [.int .i64 0]), (1, [.int .u64 0]), (1, [.pointer none]), (1, [.pointer none])] := ⟨by kernel_rfl, FOk.one1 rfl (FOk.bytes (by simp) (FOk.one1 rfl (FOk.one1 rfl (FOk.one1 rfl (FOk.one1 rfl (FOk.one1 rfl (FOk.nil)))))))⟩
instance : TyI Tryz.prog 150 true 22 := ⟨by kernel_rfl, by kernel_rfl⟩
instance : FldI Tryz.prog 150 0 0 := ⟨by kernel_rfl⟩
instance : FldI Tryz.prog 150 1 18 := ⟨by kernel_rfl⟩
instance : FldI Tryz.prog 150 2 19 := ⟨by kernel_rfl⟩
instance : FldI Tryz.prog 150 3 20 := ⟨by kernel_rfl⟩
instance : FldI Tryz.prog 150 4 21 := ⟨by kernel_rfl⟩
instance : StrI Tryz.prog 150 [(0, 18), (18, 1), (19, 1), (20, 1), (21, 1)] := ⟨by kernel_rfl⟩
instance : ZeroI Tryz.prog 150 [(1, [.bool false]), (16, u8s (List.replicate 16 0)), (1, [.int .i64 0]), (1, [.int .i64 0]), (1, [.int .u64 0]), (1, [.pointer none]), (1, [.pointer none])] := ⟨by kernel_rfl, FOk.one1 rfl (FOk.bytes (by simp) (FOk.one1 rfl (FOk.one1 rfl (FOk.one1 rfl (FOk.one1 rfl (FOk.one1 rfl (FOk.nil)))))))⟩
instance : TyI Tryz.prog 162 true 36 := ⟨by kernel_rfl, by kernel_rfl⟩
instance : FldI Tryz.prog 162 0 0 := ⟨by kernel_rfl⟩
instance : FldI Tryz.prog 162 1 17 := ⟨by kernel_rfl⟩
instance : FldI Tryz.prog 162 2 34 := ⟨by kernel_rfl⟩
instance : FldI Tryz.prog 162 3 35 := ⟨by kernel_rfl⟩
instance : StrI Tryz.prog 162 [(0, 17), (17, 17), (34, 1), (35, 1)] := ⟨by kernel_rfl⟩
instance : EqI Tryz.prog 162 [none, some .u8, some .u8, some .u8, some .u8, some .u8, some .u8, some .u8, some .u8, some .u8, some .u8, some .u8, some .u8, some .u8, some .u8, some .u8, some .u8, none, some .u8, some .u8, some .u8, some .u8, some .u8, some .u8, some .u8, some .u8, some .u8, some .u8, some .u8, some .u8, some .u8, some .u8, some .u8, some .u8, some .u8, some .u16] := ⟨⟨aggTy, by kernel_rfl, by kernel_rfl, by kernel_rfl⟩⟩
instance : ZeroI Tryz.prog 162 [(1, [.bool false]), (16, u8s (List.replicate 16 0)), (1, [.bool false]), (16, u8s (List.replicate 16 0)), (1, [.int .u8 0]), (1, [.int .u16 0])] := ⟨by kernel_rfl, FOk.one1 rfl (FOk.bytes (by simp) (FOk.one1 rfl (FOk.bytes (by simp) (FOk.one1 rfl (FOk.one1 rfl (FOk.nil))))))⟩
instance : TyI Tryz.prog 163 true 36 := ⟨by kernel_rfl, by kernel_rfl⟩
instance : FldI Tryz.prog 163 0 0 := ⟨by kernel_rfl⟩
instance : FldI Tryz.prog 163 1 17 := ⟨by kernel_rfl⟩
instance : FldI Tryz.prog 163 2 34 := ⟨by kernel_rfl⟩
instance : FldI Tryz.prog 163 3 35 := ⟨by kernel_rfl⟩
instance : StrI Tryz.prog 163 [(0, 17), (17, 17), (34, 1), (35, 1)] := ⟨by kernel_rfl⟩
instance : EqI Tryz.prog 163 [none, some .u8, some .u8, some .u8, some .u8, some .u8, some .u8, some .u8, some .u8, some .u8, some .u8, some .u8, some .u8, some .u8, some .u8, some .u8, some .u8, none, some .u8, some .u8, some .u8, some .u8, some .u8, some .u8, some .u8, some .u8, some .u8, some .u8, some .u8, some .u8, some .u8, some .u8, some .u8, some .u8, some .u8, some .u16] := ⟨⟨aggTy, by kernel_rfl, by kernel_rfl, by kernel_rfl⟩⟩
instance : ZeroI Tryz.prog 163 [(1, [.bool false]), (16, u8s (List.replicate 16 0)), (1, [.bool false]), (16, u8s (List.replicate 16 0)), (1, [.int .u8 0]), (1, [.int .u16 0])] := ⟨by kernel_rfl, FOk.one1 rfl (FOk.bytes (by simp) (FOk.one1 rfl (FOk.bytes (by simp) (FOk.one1 rfl (FOk.one1 rfl (FOk.nil))))))⟩
instance : TyI Tryz.prog 165 true 2100 := ⟨by kernel_rfl, by kernel_rfl⟩
instance : ArrI Tryz.prog 165 2100 4 := ⟨by kernel_rfl⟩
instance : ZeroI Tryz.prog 165 [(2100, List.replicate 2100 (.bool false))] := ⟨by kernel_rfl, FOk.seg (by simp) (fun v h => by rw [List.eq_of_mem_replicate h]; rfl) (FOk.nil)⟩
instance : TyI Tryz.prog 166 true 2100 := ⟨by kernel_rfl, by kernel_rfl⟩
instance : ArrI Tryz.prog 166 2100 5 := ⟨by kernel_rfl⟩
instance : ZeroI Tryz.prog 166 [(2100, u8s (List.replicate 2100 0))] := ⟨by kernel_rfl, FOk.bytes (by simp) (FOk.nil)⟩
instance : TyI Tryz.prog 167 true 4279 := ⟨by kernel_rfl, by kernel_rfl⟩
instance : FldI Tryz.prog 167 0 0 := ⟨by kernel_rfl⟩
instance : FldI Tryz.prog 167 1 36 := ⟨by kernel_rfl⟩
instance : FldI Tryz.prog 167 2 37 := ⟨by kernel_rfl⟩
instance : FldI Tryz.prog 167 3 2137 := ⟨by kernel_rfl⟩
instance : FldI Tryz.prog 167 4 4237 := ⟨by kernel_rfl⟩
instance : FldI Tryz.prog 167 5 4238 := ⟨by kernel_rfl⟩
instance : FldI Tryz.prog 167 6 4239 := ⟨by kernel_rfl⟩
instance : FldI Tryz.prog 167 7 4240 := ⟨by kernel_rfl⟩
instance : StrI Tryz.prog 167 [(0, 36), (36, 1), (37, 2100), (2137, 2100), (4237, 1), (4238, 1), (4239, 1), (4240, 39)] := ⟨by kernel_rfl⟩
instance : ZeroI Tryz.prog 167 [(1, [.bool false]), (16, u8s (List.replicate 16 0)), (1, [.bool false]), (16, u8s (List.replicate 16 0)), (1, [.int .u8 0]), (1, [.int .u16 0]), (1, [.int .u64 0]), (2100, List.replicate 2100 (.bool false)), (2100, u8s (List.replicate 2100 0)), (1, [.int .i64 0]), (1, [.int .i64 0]), (1, [.bool false]), (1, [.bool false]), (1, [.int .u8 0]), (1, [.int .i64 0]), (1, [.bool false]), (16, u8s (List.replicate 16 0)), (1, [.bool false]), (16, u8s (List.replicate 16 0)), (1, [.bool false]), (1, [.int .u8 0])] := ⟨by kernel_rfl, FOk.one1 rfl (FOk.bytes (by simp) (FOk.one1 rfl (FOk.bytes (by simp) (FOk.one1 rfl (FOk.one1 rfl (FOk.one1 rfl (FOk.seg (by simp) (fun v h => by rw [List.eq_of_mem_replicate h]; rfl) (FOk.bytes (by simp) (FOk.one1 rfl (FOk.one1 rfl (FOk.one1 rfl (FOk.one1 rfl (FOk.one1 rfl (FOk.one1 rfl (FOk.one1 rfl (FOk.bytes (by simp) (FOk.one1 rfl (FOk.bytes (by simp) (FOk.one1 rfl (FOk.one1 rfl (FOk.nil)))))))))))))))))))))⟩
instance : TyI Tryz.prog 168 true 4279 := ⟨by kernel_rfl, by kernel_rfl⟩
instance : FldI Tryz.prog 168 0 0 := ⟨by kernel_rfl⟩
instance : FldI Tryz.prog 168 1 36 := ⟨by kernel_rfl⟩
instance : FldI Tryz.prog 168 2 37 := ⟨by kernel_rfl⟩
instance : FldI Tryz.prog 168 3 2137 := ⟨by kernel_rfl⟩
instance : FldI Tryz.prog 168 4 4237 := ⟨by kernel_rfl⟩
instance : FldI Tryz.prog 168 5 4238 := ⟨by kernel_rfl⟩
instance : FldI Tryz.prog 168 6 4239 := ⟨by kernel_rfl⟩
instance : FldI Tryz.prog 168 7 4240 := ⟨by kernel_rfl⟩
instance : StrI Tryz.prog 168 [(0, 36), (36, 1), (37, 2100), (2137, 2100), (4237, 1), (4238, 1), (4239, 1), (4240, 39)] := ⟨by kernel_rfl⟩
instance : ZeroI Tryz.prog 168 [(1, [.bool false]), (16, u8s (List.replicate 16 0)), (1, [.bool false]), (16, u8s (List.replicate 16 0)), (1, [.int .u8 0]), (1, [.int .u16 0]), (1, [.int .u64 0]), (2100, List.replicate 2100 (.bool false)), (2100, u8s (List.replicate 2100 0)), (1, [.int .i64 0]), (1, [.int .i64 0]), (1, [.bool false]), (1, [.bool false]), (1, [.int .u8 0]), (1, [.int .i64 0]), (1, [.bool false]), (16, u8s (List.replicate 16 0)), (1, [.bool false]), (16, u8s (List.replicate 16 0)), (1, [.bool false]), (1, [.int .u8 0])] := ⟨by kernel_rfl, FOk.one1 rfl (FOk.bytes (by simp) (FOk.one1 rfl (FOk.bytes (by simp) (FOk.one1 rfl (FOk.one1 rfl (FOk.one1 rfl (FOk.seg (by simp) (fun v h => by rw [List.eq_of_mem_replicate h]; rfl) (FOk.bytes (by simp) (FOk.one1 rfl (FOk.one1 rfl (FOk.one1 rfl (FOk.one1 rfl (FOk.one1 rfl (FOk.one1 rfl (FOk.one1 rfl (FOk.bytes (by simp) (FOk.one1 rfl (FOk.bytes (by simp) (FOk.one1 rfl (FOk.one1 rfl (FOk.nil)))))))))))))))))))))⟩
instance : TyI Tryz.prog 169 false 1 := ⟨by kernel_rfl, by kernel_rfl⟩
instance : ZeroI Tryz.prog 169 [(1, [.pointer none])] := ⟨by kernel_rfl, FOk.one1 rfl (FOk.nil)⟩
instance : TyI Tryz.prog 174 true 20 := ⟨by kernel_rfl, by kernel_rfl⟩
instance : FldI Tryz.prog 174 0 0 := ⟨by kernel_rfl⟩
instance : FldI Tryz.prog 174 1 18 := ⟨by kernel_rfl⟩
instance : FldI Tryz.prog 174 2 19 := ⟨by kernel_rfl⟩
instance : StrI Tryz.prog 174 [(0, 18), (18, 1), (19, 1)] := ⟨by kernel_rfl⟩
instance : EqI Tryz.prog 174 [none, some .u8, some .u8, some .u8, some .u8, some .u8, some .u8, some .u8, some .u8, some .u8, some .u8, some .u8, some .u8, some .u8, some .u8, some .u8, some .u8, some .i64, some .i64, some .u64] := ⟨⟨aggTy, by kernel_rfl, by kernel_rfl, by kernel_rfl⟩⟩
instance : ZeroI Tryz.prog 174 [(1, [.bool false]), (16, u8s (List.replicate 16 0)), (1, [.int .i64 0]), (1, [.int .i64 0]), (1, [.int .u64 0])] := ⟨by kernel_rfl, FOk.one1 rfl (FOk.bytes (by simp) (FOk.one1 rfl (FOk.one1 rfl (FOk.one1 rfl (FOk.nil)))))⟩
instance : TyI Tryz.prog 175 true 20 := ⟨by kernel_rfl, by kernel_rfl⟩
instance : FldI Tryz.prog 175 0 0 := ⟨by kernel_rfl⟩
instance : FldI Tryz.prog 175 1 18 := ⟨by kernel_rfl⟩
instance : FldI Tryz.prog 175 2 19 := ⟨by kernel_rfl⟩
instance : StrI Tryz.prog 175 [(0, 18), (18, 1), (19, 1)] := ⟨by kernel_rfl⟩
instance : EqI Tryz.prog 175 [none, some .u8, some .u8, some .u8, some .u8, some .u8, some .u8, some .u8, some .u8, some .u8, some .u8, some .u8, some .u8, some .u8, some .u8, some .u8, some .u8, some .i64, some .i64, some .u64] := ⟨⟨aggTy, by kernel_rfl, by kernel_rfl, by kernel_rfl⟩⟩
instance : ZeroI Tryz.prog 175 [(1, [.bool false]), (16, u8s (List.replicate 16 0)), (1, [.int .i64 0]), (1, [.int .i64 0]), (1, [.int .u64 0])] := ⟨by kernel_rfl, FOk.one1 rfl (FOk.bytes (by simp) (FOk.one1 rfl (FOk.one1 rfl (FOk.one1 rfl (FOk.nil)))))⟩
instance : TyI Tryz.prog 183 true 42 := ⟨by kernel_rfl, by kernel_rfl⟩
instance : FldI Tryz.prog 183 0 0 := ⟨by kernel_rfl⟩
instance : FldI Tryz.prog 183 1 1 := ⟨by kernel_rfl⟩
instance : FldI Tryz.prog 183 2 2 := ⟨by kernel_rfl⟩
instance : FldI Tryz.prog 183 3 3 := ⟨by kernel_rfl⟩
instance : StrI Tryz.prog 183 [(0, 1), (1, 1), (2, 1), (3, 39)] := ⟨by kernel_rfl⟩
instance : ZeroI Tryz.prog 183 [(1, [.int .i64 0]), (1, [.slice none 0 0]), (1, [.bool false]), (1, [.bool false]), (1, [.int .u8 0]), (1, [.int .i64 0]), (1, [.bool false]), (16, u8s (List.replicate 16 0)), (1, [.bool false]), (16, u8s (List.replicate 16 0)), (1, [.bool false]), (1, [.int .u8 0])] := ⟨by kernel_rfl, FOk.one1 rfl (FOk.one1 rfl (FOk.one1 rfl (FOk.one1 rfl (FOk.one1 rfl (FOk.one1 rfl (FOk.one1 rfl (FOk.bytes (by simp) (FOk.one1 rfl (FOk.bytes (by simp) (FOk.one1 rfl (FOk.one1 rfl (FOk.nil))))))))))))⟩
instance : TyI Tryz.prog 184 true 42 := ⟨by kernel_rfl, by kernel_rfl⟩
instance : FldI Tryz.prog 184 0 0 := ⟨by kernel_rfl⟩
instance : FldI Tryz.prog 184 1 1 := ⟨by kernel_rfl⟩
instance : FldI Tryz.prog 184 2 2 := ⟨by kernel_rfl⟩
instance : FldI Tryz.prog 184 3 3 := ⟨by kernel_rfl⟩
instance : StrI Tryz.prog 184 [(0, 1), (1, 1), (2, 1), (3, 39)] := ⟨by kernel_rfl⟩
instance : ZeroI Tryz.prog 184 [(1, [.int .i64 0]), (1, [.slice none 0 0]), (1, [.bool false]), (1, [.bool false]), (1, [.int .u8 0]), (1, [.int .i64 0]), (1, [.bool false]), (16, u8s (List.replicate 16 0)), (1, [.bool false]), (16, u8s (List.replicate 16 0)), (1, [.bool false]), (1, [.int .u8 0])] := ⟨by kernel_rfl, FOk.one1 rfl (FOk.one1 rfl (FOk.one1 rfl (FOk.one1 rfl (FOk.one1 rfl (FOk.one1 rfl (FOk.one1 rfl (FOk.bytes (by simp) (FOk.one1 rfl (FOk.bytes (by simp) (FOk.one1 rfl (FOk.one1 rfl (FOk.nil))))))))))))⟩
instance : TyI Tryz.prog 190 true 4 := ⟨by kernel_rfl, by kernel_rfl⟩
instance : FldI Tryz.prog 190 0 0 := ⟨by kernel_rfl⟩
instance : FldI Tryz.prog 190 1 1 := ⟨by kernel_rfl⟩
instance : FldI Tryz.prog 190 2 2 := ⟨by kernel_rfl⟩
instance : FldI Tryz.prog 190 3 3 := ⟨by kernel_rfl⟩
instance : StrI Tryz.prog 190 [(0, 1), (1, 1), (2, 1), (3, 1)] := ⟨by kernel_rfl⟩
instance : EqI Tryz.prog 190 [some .u8, some .u8, some .u8, some .u8] := ⟨⟨aggTy, by kernel_rfl, by kernel_rfl, by kernel_rfl⟩⟩
instance : ZeroI Tryz.prog 190 [(1, [.int .u8 0]), (1, [.int .u8 0]), (1, [.int .u8 0]), (1, [.int .u8 0])] := ⟨by kernel_rfl, FOk.one1 rfl (FOk.one1 rfl (FOk.one1 rfl (FOk.one1 rfl (FOk.nil))))⟩
instance : TyI Tryz.prog 191 true 4 := ⟨by kernel_rfl, by kernel_rfl⟩
instance : FldI Tryz.prog 191 0 0 := ⟨by kernel_rfl⟩
instance : FldI Tryz.prog 191 1 1 := ⟨by kernel_rfl⟩
instance : FldI Tryz.prog 191 2 2 := ⟨by kernel_rfl⟩
instance : FldI Tryz.prog 191 3 3 := ⟨by kernel_rfl⟩
instance : StrI Tryz.prog 191 [(0, 1), (1, 1), (2, 1), (3, 1)] := ⟨by kernel_rfl⟩
instance : EqI Tryz.prog 191 [some .u8, some .u8, some .u8, some .u8] := ⟨⟨aggTy, by kernel_rfl, by kernel_rfl, by kernel_rfl⟩⟩
instance : ZeroI Tryz.prog 191 [(1, [.int .u8 0]), (1, [.int .u8 0]), (1, [.int .u8 0]), (1, [.int .u8 0])] := ⟨by kernel_rfl, FOk.one1 rfl (FOk.one1 rfl (FOk.one1 rfl (FOk.one1 rfl (FOk.nil))))⟩
instance : TyI Tryz.prog 213 false 1 := ⟨by kernel_rfl, by kernel_rfl⟩
instance : ZeroI Tryz.prog 213 [(1, [.pointer none])] := ⟨by kernel_rfl, FOk.one1 rfl (FOk.nil)⟩
instance : TyI Tryz.prog 214 false 1 := ⟨by kernel_rfl, by kernel_rfl⟩
instance : SliI Tryz.prog 214 184 := ⟨by kernel_rfl⟩
instance : ZeroI Tryz.prog 214 [(1, [.slice none 0 0])] := ⟨by kernel_rfl, FOk.one1 rfl (FOk.nil)⟩
instance : TyI Tryz.prog 215 true 2 := ⟨by kernel_rfl, by kernel_rfl⟩
instance : FldI Tryz.prog 215 0 0 := ⟨by kernel_rfl⟩
instance : FldI Tryz.prog 215 1 1 := ⟨by kernel_rfl⟩
instance : StrI Tryz.prog 215 [(0, 1), (1, 1)] := ⟨by kernel_rfl⟩
instance : ZeroI Tryz.prog 215 [(1, [.slice none 0 0]), (1, [.int .u64 0])] := ⟨by kernel_rfl, FOk.one1 rfl (FOk.one1 rfl (FOk.nil))⟩
instance : TyI Tryz.prog 216 true 2 := ⟨by kernel_rfl, by kernel_rfl⟩
instance : FldI Tryz.prog 216 0 0 := ⟨by kernel_rfl⟩
instance : FldI Tryz.prog 216 1 1 := ⟨by kernel_rfl⟩
instance : StrI Tryz.prog 216 [(0, 1), (1, 1)] := ⟨by kernel_rfl⟩
instance : ZeroI Tryz.prog 216 [(1, [.slice none 0 0]), (1, [.int .u64 0])] := ⟨by kernel_rfl, FOk.one1 rfl (FOk.one1 rfl (FOk.nil))⟩
instance : TyI Tryz.prog 222 false 1 := ⟨by kernel_rfl, by kernel_rfl⟩
instance : ZeroI Tryz.prog 222 [(1, [.pointer none])] := ⟨by kernel_rfl, FOk.one1 rfl (FOk.nil)⟩
instance : TyI Tryz.prog 223 true 40 := ⟨by kernel_rfl, by kernel_rfl⟩
instance : FldI Tryz.prog 223 0 0 := ⟨by kernel_rfl⟩
instance : FldI Tryz.prog 223 1 39 := ⟨by kernel_rfl⟩
instance : StrI Tryz.prog 223 [(0, 39), (39, 1)] := ⟨by kernel_rfl⟩
instance : ZeroI Tryz.prog 223 [(1, [.bool false]), (1, [.int .u8 0]), (1, [.int .i64 0]), (1, [.bool false]), (16, u8s (List.replicate 16 0)), (1, [.bool false]), (16, u8s (List.replicate 16 0)), (1, [.bool false]), (1, [.int .u8 0]), (1, [.slice none 0 0])] := ⟨by kernel_rfl, FOk.one1 rfl (FOk.one1 rfl (FOk.one1 rfl (FOk.one1 rfl (FOk.bytes (by simp) (FOk.one1 rfl (FOk.bytes (by simp) (FOk.one1 rfl (FOk.one1 rfl (FOk.one1 rfl (FOk.nil))))))))))⟩
instance : TyI Tryz.prog 224 true 40 := ⟨by kernel_rfl, by kernel_rfl⟩
instance : FldI Tryz.prog 224 0 0 := ⟨by kernel_rfl⟩
instance : FldI Tryz.prog 224 1 39 := ⟨by kernel_rfl⟩
instance : StrI Tryz.prog 224 [(0, 39), (39, 1)] := ⟨by kernel_rfl⟩
instance : ZeroI Tryz.prog 224 [(1, [.bool false]), (1, [.int .u8 0]), (1, [.int .i64 0]), (1, [.bool false]), (16, u8s (List.replicate 16 0)), (1, [.bool false]), (16, u8s (List.replicate 16 0)), (1, [.bool false]), (1, [.int .u8 0]), (1, [.slice none 0 0])] := ⟨by kernel_rfl, FOk.one1 rfl (FOk.one1 rfl (FOk.one1 rfl (FOk.one1 rfl (FOk.bytes (by simp) (FOk.one1 rfl (FOk.bytes (by simp) (FOk.one1 rfl (FOk.one1 rfl (FOk.one1 rfl (FOk.nil))))))))))⟩
instance : TyI Tryz.prog 227 false 1 := ⟨by kernel_rfl, by kernel_rfl⟩
instance : ZeroI Tryz.prog 227 [(1, [.pointer none])] := ⟨by kernel_rfl, FOk.one1 rfl (FOk.nil)⟩
instance : TyI Tryz.prog 228 false 1 := ⟨by kernel_rfl, by kernel_rfl⟩
instance : SliI Tryz.prog 228 3 := ⟨by kernel_rfl⟩
instance : ZeroI Tryz.prog 228 [(1, [.slice none 0 0])] := ⟨by kernel_rfl, FOk.one1 rfl (FOk.nil)⟩
instance : TyI Tryz.prog 240 true 12 := ⟨by kernel_rfl, by kernel_rfl⟩
instance : ArrI Tryz.prog 240 12 5 := ⟨by kernel_rfl⟩
instance : EqI Tryz.prog 240 [some .u8, some .u8, some .u8, some .u8, some .u8, some .u8, some .u8, some .u8, some .u8, some .u8, some .u8, some .u8] := ⟨⟨aggTy, by kernel_rfl, by kernel_rfl, by kernel_rfl⟩⟩
instance : ZeroI Tryz.prog 240 [(12, u8s (List.replicate 12 0))] := ⟨by kernel_rfl, FOk.bytes (by simp) (FOk.nil)⟩
instance : TyI Tryz.prog 241 false 1 := ⟨by kernel_rfl, by kernel_rfl⟩
instance : ZeroI Tryz.prog 241 [(1, [.pointer none])] := ⟨by kernel_rfl, FOk.one1 rfl (FOk.nil)⟩
instance : TyI Tryz.prog 242 true 2 := ⟨by kernel_rfl, by kernel_rfl⟩
instance : FldI Tryz.prog 242 0 0 := ⟨by kernel_rfl⟩
instance : FldI Tryz.prog 242 1 1 := ⟨by kernel_rfl⟩
instance : StrI Tryz.prog 242 [(0, 1), (1, 1)] := ⟨by kernel_rfl⟩
instance : EqI Tryz.prog 242 [some .u64, none] := ⟨⟨aggTy, by kernel_rfl, by kernel_rfl, by kernel_rfl⟩⟩
instance : ZeroI Tryz.prog 242 [(1, [.int .u64 0]), (1, [.bool false])] := ⟨by kernel_rfl, FOk.one1 rfl (FOk.one1 rfl (FOk.nil))⟩
instance : TyI Tryz.prog 243 true 2 := ⟨by kernel_rfl, by kernel_rfl⟩
instance : FldI Tryz.prog 243 0 0 := ⟨by kernel_rfl⟩
instance : FldI Tryz.prog 243 1 1 := ⟨by kernel_rfl⟩
instance : StrI Tryz.prog 243 [(0, 1), (1, 1)] := ⟨by kernel_rfl⟩
instance : EqI Tryz.prog 243 [some .u64, none] := ⟨⟨aggTy, by kernel_rfl, by kernel_rfl, by kernel_rfl⟩⟩
instance : ZeroI Tryz.prog 243 [(1, [.int .u64 0]), (1, [.bool false])] := ⟨by kernel_rfl, FOk.one1 rfl (FOk.one1 rfl (FOk.nil))⟩
instance : TyI Tryz.prog 248 false 1 := ⟨by kernel_rfl, by kernel_rfl⟩
instance : IntI Tryz.prog 248 .i64 := ⟨by kernel_rfl⟩
instance : ZeroI Tryz.prog 248 [(1, [.int .i64 0])] := ⟨by kernel_rfl, FOk.one1 rfl (FOk.nil)⟩
instance : TyI Tryz.prog 255 false 1 := ⟨by kernel_rfl, by kernel_rfl⟩
instance : IntI Tryz.prog 255 .u32 := ⟨by kernel_rfl⟩
instance : ZeroI Tryz.prog 255 [(1, [.int .u32 0])] := ⟨by kernel_rfl, FOk.one1 rfl (FOk.nil)⟩
instance : TyI Tryz.prog 259 false 1 := ⟨by kernel_rfl, by kernel_rfl⟩
instance : IntI Tryz.prog 259 .u64 := ⟨by kernel_rfl⟩
instance : ZeroI Tryz.prog 259 [(1, [.int .u64 0])] := ⟨by kernel_rfl, FOk.one1 rfl (FOk.nil)⟩
instance : TyI Tryz.prog 263 false 1 := ⟨by kernel_rfl, by kernel_rfl⟩
instance : ZeroI Tryz.prog 263 [(1, [.pointer none])] := ⟨by kernel_rfl, FOk.one1 rfl (FOk.nil)⟩
instance : TyI Tryz.prog 265 false 1 := ⟨by kernel_rfl, by kernel_rfl⟩
instance : SliI Tryz.prog 265 9 := ⟨by kernel_rfl⟩
instance : ZeroI Tryz.prog 265 [(1, [.slice none 0 0])] := ⟨by kernel_rfl, FOk.one1 rfl (FOk.nil)⟩
instance : TyI Tryz.prog 273 false 1 := ⟨by kernel_rfl, by kernel_rfl⟩
instance : ZeroI Tryz.prog 273 [(1, [.pointer none])] := ⟨by kernel_rfl, FOk.one1 rfl (FOk.nil)⟩
instance : TyI Tryz.prog 276 false 1 := ⟨by kernel_rfl, by kernel_rfl⟩
instance : ZeroI Tryz.prog 276 [(1, [.pointer none])] := ⟨by kernel_rfl, FOk.one1 rfl (FOk.nil)⟩
instance : TyI Tryz.prog 277 true 2 := ⟨by kernel_rfl, by kernel_rfl⟩
instance : FldI Tryz.prog 277 0 0 := ⟨by kernel_rfl⟩
instance : FldI Tryz.prog 277 1 1 := ⟨by kernel_rfl⟩
instance : StrI Tryz.prog 277 [(0, 1), (1, 1)] := ⟨by kernel_rfl⟩
instance : ZeroI Tryz.prog 277 [(1, [.pointer none]), (1, [.slice none 0 0])] := ⟨by kernel_rfl, FOk.one1 rfl (FOk.one1 rfl (FOk.nil))⟩
instance : TyI Tryz.prog 278 true 2 := ⟨by kernel_rfl, by kernel_rfl⟩
instance : FldI Tryz.prog 278 0 0 := ⟨by kernel_rfl⟩
instance : FldI Tryz.prog 278 1 1 := ⟨by kernel_rfl⟩
instance : StrI Tryz.prog 278 [(0, 1), (1, 1)] := ⟨by kernel_rfl⟩
instance : ZeroI Tryz.prog 278 [(1, [.pointer none]), (1, [.slice none 0 0])] := ⟨by kernel_rfl, FOk.one1 rfl (FOk.one1 rfl (FOk.nil))⟩
instance : TyI Tryz.prog 287 false 1 := ⟨by kernel_rfl, by kernel_rfl⟩
instance : ZeroI Tryz.prog 287 [(1, [.pointer none])] := ⟨by kernel_rfl, FOk.one1 rfl (FOk.nil)⟩
instance : TyI Tryz.prog 288 true 24 := ⟨by kernel_rfl, by kernel_rfl⟩
instance : ArrI Tryz.prog 288 24 5 := ⟨by kernel_rfl⟩
instance : EqI Tryz.prog 288 [some .u8, some .u8, some .u8, some .u8, some .u8, some .u8, some .u8, some .u8, some .u8, some .u8, some .u8, some .u8, some .u8, some .u8, some .u8, some .u8, some .u8, some .u8, some .u8, some .u8, some .u8, some .u8, some .u8, some .u8] := ⟨⟨aggTy, by kernel_rfl, by kernel_rfl, by kernel_rfl⟩⟩
instance : ZeroI Tryz.prog 288 [(24, u8s (List.replicate 24 0))] := ⟨by kernel_rfl, FOk.bytes (by simp) (FOk.nil)⟩
instance : TyI Tryz.prog 298 true 20 := ⟨by kernel_rfl, by kernel_rfl⟩
instance : ArrI Tryz.prog 298 20 32 := ⟨by kernel_rfl⟩
instance : EqI Tryz.prog 298 [some .u64, some .u64, some .u64, some .u64, some .u64, some .u64, some .u64, some .u64, some .u64, some .u64, some .u64, some .u64, some .u64, some .u64, some .u64, some .u64, some .u64, some .u64, some .u64, some .u64] := ⟨⟨aggTy, by kernel_rfl, by kernel_rfl, by kernel_rfl⟩⟩
instance : ZeroI Tryz.prog 298 [(20, List.replicate 20 (.int .u64 0))] := ⟨by kernel_rfl, FOk.seg (by simp) (fun v h => by rw [List.eq_of_mem_replicate h]; rfl) (FOk.nil)⟩
instance : TyI Tryz.prog 299 true 65 := ⟨by kernel_rfl, by kernel_rfl⟩
instance : ArrI Tryz.prog 299 65 5 := ⟨by kernel_rfl⟩
instance : EqI Tryz.prog 299 [some .u8, some .u8, some .u8, some .u8, some .u8, some .u8, some .u8, some .u8, some .u8, some .u8, some .u8, some .u8, some .u8, some .u8, some .u8, some .u8, some .u8, some .u8, some .u8, some .u8, some .u8, some .u8, some .u8, some .u8, some .u8, some .u8, some .u8, some .u8, some .u8, some .u8, some .u8, some .u8, some .u8, some .u8, some .u8, some .u8, some .u8, some .u8, some .u8, some .u8, some .u8, some .u8, some .u8, some .u8, some .u8, some .u8, some .u8, some .u8, some .u8, some .u8, some .u8, some .u8, some .u8, some .u8, some .u8, some .u8, some .u8, some .u8, some .u8, some .u8, some .u8, some .u8, some .u8, some .u8, some .u8] := ⟨⟨aggTy, by kernel_rfl, by kernel_rfl, by kernel_rfl⟩⟩
instance : ZeroI Tryz.prog 299 [(65, u8s (List.replicate 65 0))] := ⟨by kernel_rfl, FOk.bytes (by simp) (FOk.nil)⟩
instance : TyI Tryz.prog 300 true 32 := ⟨by kernel_rfl, by kernel_rfl⟩
instance : ArrI Tryz.prog 300 32 5 := ⟨by kernel_rfl⟩
instance : EqI Tryz.prog 300 [some .u8, some .u8, some .u8, some .u8, some .u8, some .u8, some .u8, some .u8, some .u8, some .u8, some .u8, some .u8, some .u8, some .u8, some .u8, some .u8, some .u8, some .u8, some .u8, some .u8, some .u8, some .u8, some .u8, some .u8, some .u8, some .u8, some .u8, some .u8, some .u8, some .u8, some .u8, some .u8] := ⟨⟨aggTy, by kernel_rfl, by kernel_rfl, by kernel_rfl⟩⟩
instance : ZeroI Tryz.prog 300 [(32, u8s (List.replicate 32 0))] := ⟨by kernel_rfl, FOk.bytes (by simp) (FOk.nil)⟩
instance : TyI Tryz.prog 301 true 64 := ⟨by kernel_rfl, by kernel_rfl⟩
instance : ArrI Tryz.prog 301 64 5 := ⟨by kernel_rfl⟩
instance : EqI Tryz.prog 301 [some .u8, some .u8, some .u8, some .u8, some .u8, some .u8, some .u8, some .u8, some .u8, some .u8, some .u8, some .u8, some .u8, some .u8, some .u8, some .u8, some .u8, some .u8, some .u8, some .u8, some .u8, some .u8, some .u8, some .u8, some .u8, some .u8, some .u8, some .u8, some .u8, some .u8, some .u8, some .u8, some .u8, some .u8, some .u8, some .u8, some .u8, some .u8, some .u8, some .u8, some .u8, some .u8, some .u8, some .u8, some .u8, some .u8, some .u8, some .u8, some .u8, some .u8, some .u8, some .u8, some .u8, some .u8, some .u8, some .u8, some .u8, some .u8, some .u8, some .u8, some .u8, some .u8, some .u8, some .u8] := ⟨⟨aggTy, by kernel_rfl, by kernel_rfl, by kernel_rfl⟩⟩
instance : ZeroI Tryz.prog 301 [(64, u8s (List.replicate 64 0))] := ⟨by kernel_rfl, FOk.bytes (by simp) (FOk.nil)⟩
end Go.Proofs.YtpilenbdimhegaaGreatDoor
/- Maps of keys of integers and bools: that they are such; what stands in them. -/
namespace Go.Proofs.YtpilenbdimhegaaGreatDoor
open Go.RowKit
set_option linter.unusedSimpArgs false
set_option linter.unusedVariables false

def in64 (n : Int) : Prop := -9223372036854775808 ≤ n ∧ n ≤ 9223372036854775807
theorem in64_wf {n : Int} (h : in64 n) : inR (.int .i64 n) := by
  unfold inR in64 at *
  simp [Lit.wf, IntKind.min, IntKind.max, IntKind.signed, IntKind.bits]
  omega
theorem run_zero {P : Program} {T : TypeId} {z : Value} (h : (P.info? T).bind (·.zero) = some z) (w : World) : (zeroValue T).run P w = .ok z w := by
  cases hi : P.info? T with
  | none => rw [hi] at h; cases h
  | some i =>
    rw [hi] at h
    simp only [Option.bind_some] at h
    simp [zeroValue, typeInfo, hi, h, Sem.run_bind]
theorem mapI_of {K V : Type} {P : Program} {T kT eT : TypeId} {ks : List (Option IntKind)} {M : MK K V} (kc : K → Ch) (hM : ∀ k, M.kc k = ag (kc k)) (hu : P.underlying T = some (.map kT eT)) (hE : EqI P kT ks) (hkt : P.keyType kT = true) (hsz : Nat.ble 8 (P.types.size + 1) = true) (hc : P.cellsOf kT = ks.length) (hl : laidOutB P = true) (hrow : kT < P.types.size) (hka : P.keyTypeAt 5 kT = true)
    (hw : (match P.underlying kT with | some (.array _ _) | some (.struct _) => true | _ => false) = true) (hs : ∀ k, M.wf k → Shp ks (flat (kc k)) ∧ ∀ v ∈ flat (kc k), inR v) (hz : (P.info? eT).bind (·.zero) = some (M.vc M.v0)) (hi : ∀ a b, flat (kc a) = flat (kc b) → a = b) : MapI P T M where
  law := ⟨kT, eT, hu, .of_law (deep_law_laid hl (m := 5) (by omega) hrow hka hw), fun k hk => by
    rw [hM]
    exact keyOf_shp hE.ty hkt (Nat.le_of_ble_eq_true hsz) hc (hs k hk).1 (hs k hk).2, fun w => run_zero hz w⟩
  inj := fun a b h => by
    rw [hM, hM] at h
    unfold ag at h
    apply hi
    simpa using h
theorem flatten_at {α : Type} {sz : Nat} : ∀ {l : List (List α)} {i o : Nat}, (∀ x ∈ l, x.length = sz) → o < sz → l.flatten[i * sz + o]? = (l[i]?).bind (fun x => x[o]?)
  | [], i, o, _, _ => by simp
  | x :: l, i, o, h, ho => by
    have hx := h x (List.mem_cons_self ..)
    cases i with
    | zero => rw [List.flatten_cons, Nat.zero_mul, Nat.zero_add, List.getElem?_append_left (by omega)]; simp
    | succ i =>
      rw [List.flatten_cons, List.getElem?_append_right (by rw [Nat.succ_mul]; omega), show (i + 1) * sz + o - x.length = i * sz + o by rw [Nat.succ_mul]; omega]
      rw [flatten_at (fun y hy => h y (List.mem_cons_of_mem _ hy)) ho]
      simp
theorem flatten_len {α : Type} {sz : Nat} : ∀ {l : List (List α)}, (∀ x ∈ l, x.length = sz) → l.flatten.length = l.length * sz
  | [], _ => by simp
  | x :: l, h => by
    rw [List.flatten_cons, List.length_append, h x (List.mem_cons_self ..), flatten_len fun y hy => h y (List.mem_cons_of_mem _ hy), List.length_cons, Nat.succ_mul]
    omega
theorem rows_at {α : Type} {c : α → Ch} {sz : Nat} {l : List α} {i o : Nat} {x : α} {u : Value} (hc : ∀ x, (flat (c x)).length = sz) (hx : l[i]? = some x) (ho : o < sz) (hu : (flat (c x))[o]? = some u) : (l.map fun x => flat (c x)).flatten[i * sz + o]? = some u := by
  rw [flatten_at (by intro y hy; obtain ⟨z, _, rfl⟩ := List.mem_map.1 hy; exact hc z) ho, List.getElem?_map, hx]
  exact hu
theorem rows_len {α : Type} {c : α → Ch} {sz : Nat} {l : List α} (hc : ∀ x, (flat (c x)).length = sz) : (l.map fun x => flat (c x)).flatten.length = l.length * sz := by
  rw [flatten_len (sz := sz) (by intro y hy; obtain ⟨z, _, rfl⟩ := List.mem_map.1 hy; exact hc z), List.length_map]
section
variable {P : Program} {n : Nat} {Γ : List Asn} {F : List (Nat × Value)} {ops : Array Oper} {eats : List (Nat × Nat)} {K : Prev → Prop} {j : Nat} {os : List Oper} {o : Oper} {D bad : List Nat} {Ds : List (List Nat × List Nat)} {prev : Prev}
/-- In a drawn region: what gives a value, and turns several. -/
theorem RGl.turns {c : Env → Value} {Γ1 Γ2 : Env → List Asn} (h : ∀ e, oksR D e prev → OpT P n (ensR eats D j e prev ++ Γ) (bndR D e prev ++ fcutR bad F) o (Γ1 e) (RTurns (c e) (Γ2 e)))
    (k : RGl P n Γ F ops eats K (j + 1) os Ds ((j, o.dst, ⟨fun e _ => c e, fun e _ => Γ2 e, fun _ _ => True⟩) :: prev)) (hs : ∀ e, ∀ A, A ∈ Γ1 e → A ∈ eaten1R eats j e prev := by intro e A hA; first | exact hA | simpa [eaten1R, psp, or_comm] using hA) (hw : ∀ e, wantG (bndR D e prev ++ fcutR bad F) ops o.guard = some true := by intro e; first | rfl | fail) (hi : ∀ e, c (mask D e) = c e ∧ Γ2 (mask D e) = Γ2 e := by intro e; first | exact ⟨rfl, rfl⟩ | fail) :
    RGl P n Γ F ops eats K j (o :: os) ((D, bad) :: Ds) prev :=
  RGl.stepR (fun e he => .op (hw e) (h e he) (hs e) (by rintro v Γ' ⟨rfl, rfl⟩; exact ⟨rfl, rfl, trivial⟩)) (fun e _ => ⟨(hi e).1, (hi e).2, rfl⟩) k
theorem OpT.callTs {d : Option Tmp} {f : FuncId} {xs : List Operand} {ts : Array TypeId} {ty : TypeId} {pos : String} {af : Array Edge} {gd : Option (Nat × Bool)} {vs : List Value} {Γo Γf : List Asn} {R : Value → List Asn → Prop}
    (h : Triple P f vs.toArray Γo R) (hx : evFs F xs vs := by (try dsimp only [bndR, ensR, oksR, fcutR, List.append_nil, List.nil_append, List.cons_append, List.append_assoc]); exact evsA) (hp : Takes Γ Γo Γf := by (try dsimp only [bndR, ensR, oksR, fcutR, List.append_nil, List.nil_append, List.cons_append, List.append_assoc]); exact takesA) (hc : isCode P f = true := by kernel_rfl) : OpT P n Γ F ⟨d, .call { callee := .value (.func f), args := xs.toArray, argTypes := ts }, ty, pos, af, gd⟩ Γo R := by
  intro ρ w hf hw ha
  unfold DoesW
  rw [run_call hc, hx.map hf]
  refine (Triple.frame (Δ := []) (Γo := Γo) (Γf := Γf) h (fun A hA => hw A (hp.mem_iff.2 hA)) (apart_perm hp ha) .nil (fun A hA => by cases hA)).mono ?_
  rintro e w' ⟨v, Γ', he, hR, hp⟩
  exact ⟨v, he, Γ', hR, hp⟩
end
variable {K V : Type} [DecidableEq K]
theorem mput_len {l : List (K × V)} {k : K} {vd : V} : (mput l k vd).length = if mhas l k then l.length else l.length + 1 := by
  induction l with
  | nil => rfl
  | cons a l ih =>
    unfold mput mhas mfind
    by_cases h : a.1 = k
    · simp [h]
    · simp only [if_neg h, List.length_cons, ih]
      unfold mhas
      split <;> rfl
theorem mfind_none_of {l : List (K × V)} {k : K} (h : mfind l k = none) : ∀ a ∈ l, a.1 ≠ k := by
  induction l with
  | nil => intro a ha; cases ha
  | cons b l ih =>
    unfold mfind at h
    split at h
    · cases h
    · rename_i hb
      intro a ha
      rcases List.mem_cons.1 ha with rfl | ha
      · exact hb
      · exact ih h a ha
theorem mfind_mem {l : List (K × V)} {k : K} {vd : V} (h : mfind l k = some vd) : (k, vd) ∈ l := by
  induction l with
  | nil => cases h
  | cons b l ih =>
    unfold mfind at h
    split at h
    · rename_i hb
      cases h
      rw [← hb]
      exact List.mem_cons_self ..
    · exact List.mem_cons_of_mem _ (ih h)
theorem mfind_del {l : List (K × V)} {k k' : K} (hn : (l.map (·.1)).Nodup) : mfind (mdel l k) k' = if k = k' then none else mfind l k' := by
  induction l with
  | nil => simp [mdel, mfind]
  | cons b l ih =>
    rw [List.map_cons, List.nodup_cons] at hn
    unfold mdel
    by_cases h : b.1 = k
    · rw [if_pos h]
      by_cases h2 : k = k'
      · rw [if_pos h2]
        cases hm : mfind l k' with
        | none => rfl
        | some vd => exact absurd (List.mem_map.2 ⟨_, mfind_mem hm, (h.trans h2).symm⟩) hn.1
      · rw [if_neg h2]
        unfold mfind
        rw [if_neg (fun hh => h2 (h.symm.trans hh))]
        cases l with
        | nil => rfl
        | cons c l => rfl
    · rw [if_neg h]
      unfold mfind
      rw [ih hn.2]
      by_cases h2 : k = k'
      · rw [if_pos h2, if_pos h2, if_neg (fun hh => h (hh.trans h2.symm))]
      · rw [if_neg h2, if_neg h2]
theorem mdel_len {l : List (K × V)} {k : K} : (mdel l k).length = if mhas l k then l.length - 1 else l.length := by
  induction l with
  | nil => rfl
  | cons b l ih =>
    unfold mdel mhas mfind
    by_cases h : b.1 = k
    · simp [h]
    · simp only [if_neg h, List.length_cons, ih]
      unfold mhas
      split
      · rename_i hm
        have : 0 < l.length := by
          cases l with
          | nil => cases hm
          | cons _ _ => simp
        omega
      · rfl
end Go.Proofs.YtpilenbdimhegaaGreatDoor
/- Addresses, as they stand in cells. -/
namespace Go.Proofs.YtpilenbdimhegaaGreatDoor
open Go.RowKit
set_option linter.unusedSimpArgs false
set_option linter.unusedVariables false

/-- An address. -/
structure Adr where
  six : Bool
  b : List UInt8
  len : b.length = 16
instance (a : Adr) : LenI a.b 16 := ⟨a.len⟩
abbrev adc (a : Adr) : Ch := [(1, [.bool a.six]), (16, u8s a.b)]
theorem Adr.ext {a c : Adr} (h : a.six = c.six) (k : a.b = c.b) : a = c := by cases a; cases c; simp_all
def Adr.bytes (a : Adr) : List UInt8 := if a.six then a.b else seg a.b 12 4
theorem Adr.bytes_len (a : Adr) : a.bytes.length = if a.six then 16 else 4 := by
  unfold Adr.bytes; split
  · exact a.len
  · exact seg_length (by rw [a.len]; decide)
theorem Adr.bytes_le (a : Adr) : a.bytes.length ≤ 16 := by rw [a.bytes_len]; split <;> omega
/-- The address of IPv4 of four bytes. -/
def Adr.of4 (l : List UInt8) (h : l.length = 4) : Adr := ⟨false, over (List.replicate 16 0) 12 l, by rw [over_length] <;> simp [h]⟩
def Adr.of6 (l : List UInt8) (h : l.length = 16) : Adr := ⟨true, l, h⟩
def Adr.zero : Adr := ⟨false, List.replicate 16 0, by simp⟩
def Adr.good (a : Adr) : Bool := a.six || decide (seg a.b 0 12 = List.replicate 12 0)

instance adrDec : DecidableEq Adr := fun a b => if h : a.six = b.six ∧ a.b = b.b then .isTrue (Adr.ext h.1 h.2) else .isFalse fun e => h ⟨e ▸ rfl, e ▸ rfl⟩
theorem inR_u8 {l : List UInt8} : ∀ v ∈ u8s l, inR v := fun v hv => by
  obtain ⟨b, _, rfl⟩ := List.mem_map.1 hv
  have := b.toNat_lt
  simp [inR, Lit.wf, IntKind.min, IntKind.max, IntKind.signed, IntKind.bits]
  omega
end Go.Proofs.YtpilenbdimhegaaGreatDoor
/- (Without bytes.) What came in, opened: an argument's reading gives its shape (as separation tells it). -/
namespace Go.Proofs.YtpilenbdimhegaaGreatDoor
open Go.ChangeShapes Go.WideShapes Go.ChangeAt Go.RowKit
set_option linter.unusedSimpArgs false
set_option linter.unusedVariables false

theorem Tryz.own : ownKnob Tryz.prog.godebug = none := by kernel_rfl
theorem Tryz.laidOut : laidOutB Tryz.prog = true := by kernel_rfl

section
variable {H : Type} {enc : TypeId × Value → H} {P : Program} {W : World} {base : Nat} {v : Value} {d : DataW H} {p : List MemPlace} {t : TypeId}

theorem open_nat {k : IntKind} (ht : P.underlying t = some (.int k)) (hk : k.signed = false) (hval : Value.okWide P W .any base t v) (h : DataW.Trod enc P W 0 (fun _ => true) true t v d p) :
    ∃ n : Nat, v = .int k n ∧ n < 2 ^ k.bits := by
  obtain ⟨n, rfl, _, _, hw⟩ := open_int ht hval h
  cases k <;> simp [IntKind.signed] at hk
  · have := bounds_u8 hw; exact ⟨n.toNat, by rw [Int.toNat_of_nonneg (by omega)], by simp [IntKind.bits]; omega⟩
  · have := bounds_u16 hw; exact ⟨n.toNat, by rw [Int.toNat_of_nonneg (by omega)], by simp [IntKind.bits]; omega⟩
  · have := bounds_u32 hw; exact ⟨n.toNat, by rw [Int.toNat_of_nonneg (by omega)], by simp [IntKind.bits]; omega⟩
  · have := bounds_u64 hw; exact ⟨n.toNat, by rw [Int.toNat_of_nonneg (by omega)], by simp [IntKind.bits]; omega⟩

end

/-! ### Values that hold integers and bools alone -/

/-- Cells of given kinds (none: a bool). -/
def Fits : List (Option IntKind) → List Value → Prop
  | [], [] => True
  | none :: ks, v :: vs => (∃ b, v = .bool b) ∧ Fits ks vs
  | some k :: ks, v :: vs => (∃ n, v = .int k n ∧ (Lit.int k n).wf = true) ∧ Fits ks vs
  | _, _ => False

theorem Fits.append : ∀ {ks ks' : List (Option IntKind)} {vs vs' : List Value}, Fits ks vs → Fits ks' vs' → Fits (ks ++ ks') (vs ++ vs')
  | [], _, [], _, _, h => h
  | none :: _, _, _ :: _, _, h, h' => ⟨h.1, Fits.append h.2 h'⟩
  | some _ :: _, _, _ :: _, _, h, h' => ⟨h.1, Fits.append h.2 h'⟩
  | [], _, _ :: _, _, h, _ => h.elim
  | none :: _, _, [], _, h, _ => h.elim
  | some _ :: _, _, [], _, h, _ => h.elim

/-- The kinds of a type's cells, where it holds integers and bools alone. -/
def flatK (P : Program) : Nat → TypeId → Option (List (Option IntKind))
  | 0, _ => none
  | fuel + 1, t =>
    match P.underlying t with
    | some .bool => some [none]
    | some (.int k) => some [some k]
    | some (.struct fs) => (fs.toList.foldr (fun f acc => fun off => if f.offset = off then (flatK P fuel f.type).bind fun ks => if P.cellsOf f.type = ks.length then (acc (off + ks.length)).map (ks ++ ·) else none else none) (fun off => if P.cellsOf t = off then some [] else none)) 0
    | some (.array n e) => (flatK P fuel e).bind fun ks => if P.cellsOf e = ks.length ∧ P.cellsOf t = n * ks.length then some (List.replicate n ks).flatten else none
    | _ => none

theorem mapM_each {α β : Type} {f : α → Option β} : ∀ {l : List α} {r : List β}, l.mapM f = some r → ∀ x ∈ l, ∃ y, f x = some y
  | [], _, _, _, h => (by cases h)
  | a :: l, r, h, x, hx => by
    rw [List.mapM_cons] at h
    cases ha : f a with
    | none => rw [ha] at h; cases h
    | some y =>
      rw [ha] at h
      cases hl : l.mapM f with
      | none => rw [hl] at h; cases h
      | some ys =>
        rcases List.mem_cons.1 hx with rfl | hx
        · exact ⟨y, ha⟩
        · exact mapM_each hl x hx

section
variable {H : Type} {enc : TypeId × Value → H} {P : Program} {W : World}

theorem flat_fields {spare : Nat → Bool} {held : Bool} {base fuel f2 : Nat} (ih : ∀ t ks cs x, flatK P fuel t = some ks → DataW.trod enc P W base spare held f2 t cs = some x → Fits ks cs) (tot : Nat) (cs : List Value) :
    ∀ (fs : List Field) (off : Nat) (ks : List (Option IntKind)),
      (fs.foldr (fun f acc => fun off => if f.offset = off then (flatK P fuel f.type).bind fun ks => if P.cellsOf f.type = ks.length then (acc (off + ks.length)).map (ks ++ ·) else none else none) (fun off => if tot = off then some [] else none)) off = some ks →
      (∀ f ∈ fs, ∃ y, DataW.trod enc P W base spare held f2 f.type ((cs.drop f.offset).take (P.cellsOf f.type)) = some y) → cs.length = tot → Fits ks (cs.drop off)
  | [], off, ks, h, _, hl => by
    simp only [List.foldr_nil] at h
    split at h
    · cases h
      rw [List.drop_eq_nil_of_le (by omega)]
      trivial
    · cases h
  | f :: fs, off, ks, h, hall, hl => by
    simp only [List.foldr_cons] at h
    split at h
    · rename_i hoff
      cases hk : flatK P fuel f.type with
      | none => rw [hk] at h; cases h
      | some k1 =>
        rw [hk] at h
        simp only [Option.bind_some] at h
        split at h
        · rename_i hc
          rw [Option.map_eq_some_iff] at h
          obtain ⟨k2, h2, rfl⟩ := h
          obtain ⟨y, hy⟩ := hall f (List.mem_cons_self ..)
          have f1 := ih _ _ _ _ hk hy
          have r := flat_fields ih tot cs fs (off + k1.length) k2 h2 (fun g hg => hall g (List.mem_cons_of_mem _ hg)) hl
          rw [hoff, hc] at f1
          have e : cs.drop off = (cs.drop off).take k1.length ++ cs.drop (off + k1.length) := by
            rw [← List.drop_drop, List.take_append_drop]
          rw [e]
          exact f1.append r
        · cases h
    · cases h

theorem flat_cells {spare : Nat → Bool} {held : Bool} {base : Nat} : ∀ (fuel : Nat) (f2 : Nat) (t : TypeId) (ks : List (Option IntKind)) (cs : List Value) (x : DataW H × List MemPlace),
    flatK P fuel t = some ks → DataW.trod enc P W base spare held f2 t cs = some x → Fits ks cs
  | 0, _, _, _, _, _, h, _ => (by cases h)
  | fuel + 1, 0, _, _, _, _, _, h => (by cases h)
  | fuel + 1, f2 + 1, t, ks, cs, x, h, hx => by
    unfold flatK at h
    cases ht : P.underlying t with
    | none => rw [ht] at h; cases h
    | some d =>
      rw [ht] at h
      cases d with
      | bool =>
        cases h
        unfold DataW.trod at hx
        rw [ht] at hx
        split at hx <;> simp_all [Fits]
      | int k =>
        cases h
        obtain ⟨n, hc, _, hw⟩ := DataW.trod_int ht hx
        subst hc
        exact ⟨⟨n, rfl, hw⟩, trivial⟩
      | struct fs =>
        simp only at h
        unfold DataW.trod at hx
        rw [ht] at hx
        simp only at hx
        split at hx
        · rename_i hlen
          rw [Option.map_eq_some_iff] at hx
          obtain ⟨ys, hys, _⟩ := hx
          have := flat_fields (fun t ks cs x => flat_cells fuel f2 t ks cs x) (P.cellsOf t) cs fs.toList 0 ks h (fun f hf => mapM_each hys f hf) hlen
          simpa using this
        · cases hx
      | array n e =>
        simp only at h
        unfold DataW.trod at hx
        rw [ht] at hx
        simp only at hx
        split at hx
        · rename_i hlen
          rw [Option.map_eq_some_iff] at hx
          obtain ⟨ys, hys, _⟩ := hx
          cases hk : flatK P fuel e with
          | none => rw [hk] at h; cases h
          | some k1 =>
            rw [hk] at h
            simp only [Option.bind_some] at h
            split at h
            · rename_i hc
              cases h
              rw [hc.2] at hlen
              rw [hc.1] at hys
              have each : ∀ i, i < n → Fits k1 ((cs.drop (i * k1.length)).take k1.length) := by
                intro i hi
                obtain ⟨y, hy⟩ := mapM_each hys i (by simpa using hi)
                exact flat_cells fuel f2 _ _ _ _ hk hy
              have all : ∀ m, m ≤ n → Fits (List.replicate m k1).flatten (cs.take (m * k1.length)) := by
                intro m
                induction m with
                | zero => intro _; simp [Fits]
                | succ m ihm =>
                  intro hm
                  rw [List.replicate_succ', List.flatten_append, Nat.succ_mul, List.take_add]
                  refine (ihm (by omega)).append ?_
                  simpa using each m (by omega)
              have := all n (Nat.le_refl _)
              rwa [List.take_of_length_le (by omega)] at this
            · cases h
        · cases hx
      | _ => cases h

theorem Fits.split : ∀ {ks ks' : List (Option IntKind)} {vs : List Value}, Fits (ks ++ ks') vs → ∃ v1 v2, vs = v1 ++ v2 ∧ Fits ks v1 ∧ Fits ks' v2
  | [], _, vs, h => ⟨[], vs, rfl, trivial, h⟩
  | none :: ks, ks', v :: vs, h => by
    obtain ⟨v1, v2, rfl, h1, h2⟩ := Fits.split h.2
    exact ⟨v :: v1, v2, rfl, ⟨h.1, h1⟩, h2⟩
  | some k :: ks, ks', v :: vs, h => by
    obtain ⟨v1, v2, rfl, h1, h2⟩ := Fits.split h.2
    exact ⟨v :: v1, v2, rfl, ⟨h.1, h1⟩, h2⟩
  | none :: _, _, [], h => h.elim
  | some _ :: _, _, [], h => h.elim

/-- The kinds of an address's cells. -/
def adKinds : List (Option IntKind) := none :: List.replicate 16 (some .u8)
theorem fits_uint {k : IntKind} (hk : k.signed = false) {ks : List (Option IntKind)} : ∀ {vs : List Value}, Fits (some k :: ks) vs → ∃ (n : Nat) (r : List Value), vs = .int k (n : Int) :: r ∧ n < 2 ^ k.bits ∧ Fits ks r
  | v :: r, h => by
    obtain ⟨⟨n, rfl, hw⟩, h⟩ := h
    cases k <;> simp [IntKind.signed] at hk
    · have := bounds_u8 hw; exact ⟨n.toNat, r, by rw [Int.toNat_of_nonneg (by omega)], by simp [IntKind.bits]; omega, h⟩
    · have := bounds_u16 hw; exact ⟨n.toNat, r, by rw [Int.toNat_of_nonneg (by omega)], by simp [IntKind.bits]; omega, h⟩
    · have := bounds_u32 hw; exact ⟨n.toNat, r, by rw [Int.toNat_of_nonneg (by omega)], by simp [IntKind.bits]; omega, h⟩
    · have := bounds_u64 hw; exact ⟨n.toNat, r, by rw [Int.toNat_of_nonneg (by omega)], by simp [IntKind.bits]; omega, h⟩

theorem fits_nil : ∀ {vs : List Value}, Fits [] vs → vs = []
  | [], _ => rfl

/-- The kinds of a flow's cells. -/
def flKinds : List (Option IntKind) := adKinds ++ (adKinds ++ [some .u16, some .u16, some .u8])

theorem fits_bytes : ∀ {n : Nat} {vs : List Value}, Fits (List.replicate n (some .u8)) vs → ∃ l : List UInt8, vs = u8s l ∧ l.length = n
  | 0, [], _ => ⟨[], rfl, rfl⟩
  | 0, _ :: _, h => h.elim
  | n + 1, [], h => h.elim
  | n + 1, v :: vs, h => by
    obtain ⟨⟨m, rfl, hw⟩, h2⟩ := h
    obtain ⟨l, rfl, hl⟩ := fits_bytes h2
    have := bounds_u8 hw
    refine ⟨UInt8.ofNat m.toNat :: l, ?_, by simp [hl]⟩
    have e : ((UInt8.ofNat m.toNat).toNat : Int) = m := by
      have h3 : (UInt8.ofNat m.toNat).toNat = m.toNat % 256 := by simp
      rw [h3]
      omega
    show _ :: _ = Value.int .u8 ((UInt8.ofNat m.toNat).toNat : Int) :: u8s l
    rw [e]
theorem fits_adr {vs : List Value} (h : Fits adKinds vs) : ∃ a : Adr, vs = flat (adc a) := by
  cases vs with
  | nil => exact h.elim
  | cons v vs =>
    obtain ⟨⟨b, rfl⟩, h2⟩ := h
    obtain ⟨l, rfl, hl⟩ := fits_bytes h2
    exact ⟨⟨b, l, hl⟩, by simp [flat_eq]⟩
/-- Nothing old has turned. -/
def Ext (w w' : World) : Prop := Below w.heap.size w w'
/-- A law, out of its contract. -/
theorem law_of {f : FuncId} {args : Array Value} {c : Value} {Γ : List Asn} (h : Triple P f args Γ (RVal c)) (ho : ∀ A, A ∈ Γ → A.own = false) (hw : Holds Γ W) : Calls P f args W fun e W' => e = .returned c ∧ Ext W W' := by
  refine (h W hw ?_).mono ?_
  · clear hw h
    induction Γ with
    | nil => exact .nil
    | cons A Γ ih =>
      refine .cons (fun B hB hor => ?_) (ih fun B hB => ho B (List.mem_cons_of_mem _ hB))
      rw [ho A (List.mem_cons_self ..), ho B (List.mem_cons_of_mem _ hB)] at hor
      simp at hor
  · rintro e W' ⟨v, Γ', rfl, ⟨rfl, rfl⟩, hp⟩
    refine ⟨rfl, hp.mod.os, hp.mod.tape, hp.mod.output, hp.mod.size, fun g hg => hp.mod.block g hg ?_⟩
    rintro ⟨A, hA, hao, _⟩
    rw [ho A hA] at hao
    cases hao
theorem hold0 : Holds [] W := fun _ h => by cases h
theorem hold1 {A : Asn} {Γ : List Asn} (h : A.holds W) (k : Holds Γ W) : Holds (A :: Γ) W := fun B hB => by
  rcases List.mem_cons.1 hB with rfl | hB
  · exact h
  · exact k B hB

theorem open_u8 {v : Value} {d : DataW H} {p : List MemPlace} {base : Nat} {t : TypeId} (ht : P.underlying t = some (.int .u8)) (hval : Value.okWide P W .any base t v) (h : DataW.Trod enc P W 0 (fun _ => true) true t v d p) : ∃ c : UInt8, v = .int .u8 ((c.toNat : Nat) : Int) := by
  obtain ⟨n, rfl, hn⟩ := open_nat ht rfl hval h
  refine ⟨UInt8.ofNat n, ?_⟩
  rw [u8_of, Nat.mod_eq_of_lt (by simpa [IntKind.bits] using hn)]
theorem fits_u8n {ks : List (Option IntKind)} {vs : List Value} (h : Fits (some .u8 :: ks) vs) : ∃ (c : UInt8) (r : List Value), vs = .int .u8 ((c.toNat : Nat) : Int) :: r ∧ Fits ks r := by
  obtain ⟨n, r, rfl, hn, h⟩ := fits_uint rfl h
  exact ⟨UInt8.ofNat n, r, by rw [u8_of, Nat.mod_eq_of_lt (by simpa [IntKind.bits] using hn)], h⟩

end

end Go.Proofs.YtpilenbdimhegaaGreatDoor
/- Slices of structs of integers and bools that came in, opened. -/
namespace Go.Proofs.YtpilenbdimhegaaGreatDoor
open Go.ChangeShapes Go.WideShapes Go.ChangeAt Go.RowKit
set_option linter.unusedSimpArgs false
set_option linter.unusedVariables false
section
variable {H : Type} {enc : TypeId × Value → H} {P : Program} {W : World}
theorem mapM_get {α β : Type} {f : α → Option β} : ∀ {l : List α} {r : List β}, l.mapM f = some r → r.length = l.length ∧ ∀ (j : Nat) (x : α), l[j]? = some x → f x = r[j]?
  | [], r, h => by
    simp only [List.mapM_nil, Option.pure_def, Option.some.injEq] at h
    subst h
    exact ⟨rfl, fun j x hx => by simp at hx⟩
  | a :: l, r, h => by
    rw [List.mapM_cons] at h
    cases ha : f a with
    | none => rw [ha] at h; cases h
    | some y =>
      rw [ha] at h
      cases hl : l.mapM f with
      | none => rw [hl] at h; cases h
      | some ys =>
        rw [hl] at h
        obtain rfl : y :: ys = r := by simpa using h
        obtain ⟨h1, h2⟩ := mapM_get hl
        refine ⟨by simp [h1], fun j x hx => ?_⟩
        cases j with
        | zero => simp at hx; subst hx; simpa using ha
        | succ j => simpa using h2 j x (by simpa using hx)
theorem cells_get {b0 : Nat} {a : Addr} {n : Nat} {cs : List Value} (h : W.cells? b0 a n = some cs) : cs.length = n ∧ ∀ j, j < n → W.cell? (a.add j) = cs[j]? := by
  unfold World.cells? at h
  split at h
  · obtain ⟨h1, h2⟩ := mapM_get h
    refine ⟨by simpa using h1, fun j hj => h2 j j ?_⟩
    rw [List.getElem?_range hj]
  · cases h
theorem list_of {α β : Type} {c : α → β} {p : α → Prop} : ∀ {l : List β}, (∀ x ∈ l, ∃ y, x = c y ∧ p y) → ∃ r : List α, l = r.map c ∧ ∀ y ∈ r, p y
  | [], _ => ⟨[], rfl, by simp⟩
  | x :: l, h => by
    obtain ⟨y, rfl, hy⟩ := h x (List.mem_cons_self ..)
    obtain ⟨r, rfl, hr⟩ := list_of fun z hz => h z (List.mem_cons_of_mem _ hz)
    exact ⟨y :: r, rfl, fun z hz => by
      rcases List.mem_cons.1 hz with rfl | hz
      · exact hy
      · exact hr z hz⟩
end
end Go.Proofs.YtpilenbdimhegaaGreatDoor
/- What came in and holds slices of integers within, opened. -/
namespace Go.Proofs.YtpilenbdimhegaaGreatDoor
open Go.ChangeShapes Go.WideShapes Go.ChangeAt Go.RowKit
set_option linter.unusedSimpArgs false
set_option linter.unusedVariables false
/-- The kind of a cell: a bool, an integer, or a slice of integers. -/
inductive KV where
  | k (o : Option IntKind)
  | s (k : IntKind)
def FitsV (W : World) : List KV → List Value → Prop
  | [], [] => True
  | .k none :: ks, v :: vs => (∃ b, v = .bool b) ∧ FitsV W ks vs
  | .k (some k) :: ks, v :: vs => (∃ n, v = .int k n ∧ (Lit.int k n).wf = true) ∧ FitsV W ks vs
  | .s k :: ks, v :: vs => (∃ xs : List Int, (rdN v xs.length (xs.map (Value.int k))).holds W ∧ ∀ n ∈ xs, (Lit.int k n).wf = true) ∧ FitsV W ks vs
  | _, _ => False
theorem FitsV.append {W : World} : ∀ {ks ks' : List KV} {vs vs' : List Value}, FitsV W ks vs → FitsV W ks' vs' → FitsV W (ks ++ ks') (vs ++ vs')
  | [], _, [], _, _, h => h
  | .k none :: _, _, _ :: _, _, h, h' => ⟨h.1, FitsV.append h.2 h'⟩
  | .k (some _) :: _, _, _ :: _, _, h, h' => ⟨h.1, FitsV.append h.2 h'⟩
  | .s _ :: _, _, _ :: _, _, h, h' => ⟨h.1, FitsV.append h.2 h'⟩
  | [], _, _ :: _, _, h, _ => h.elim
  | .k none :: _, _, [], _, h, _ => h.elim
  | .k (some _) :: _, _, [], _, h, _ => h.elim
  | .s _ :: _, _, [], _, h, _ => h.elim
theorem FitsV.length {W : World} : ∀ {ks : List KV} {vs : List Value}, FitsV W ks vs → vs.length = ks.length
  | [], [], _ => rfl
  | .k none :: _, _ :: _, h => by simp [FitsV.length h.2]
  | .k (some _) :: _, _ :: _, h => by simp [FitsV.length h.2]
  | .s _ :: _, _ :: _, h => by simp [FitsV.length h.2]
  | [], _ :: _, h => h.elim
  | .k none :: _, [], h => h.elim
  | .k (some _) :: _, [], h => h.elim
  | .s _ :: _, [], h => h.elim
theorem FitsV.of {W : World} : ∀ {ks : List (Option IntKind)} {vs : List Value}, Fits ks vs → FitsV W (ks.map KV.k) vs
  | [], [], _ => trivial
  | none :: _, _ :: _, h => ⟨h.1, FitsV.of h.2⟩
  | some _ :: _, _ :: _, h => ⟨h.1, FitsV.of h.2⟩
  | [], _ :: _, h => h.elim
  | none :: _, [], h => h.elim
  | some _ :: _, [], h => h.elim
def flatV (P : Program) : Nat → TypeId → Option (List KV)
  | 0, _ => none
  | fuel + 1, t =>
    match P.underlying t with
    | some (.struct fs) => (fs.toList.foldr (fun f acc => fun off => if f.offset = off then (flatV P fuel f.type).bind fun ks => if P.cellsOf f.type = ks.length then (acc (off + ks.length)).map (ks ++ ·) else none else none) (fun off => if P.cellsOf t = off then some [] else none)) 0
    | some (.slice e) => match P.underlying e with
      | some (.int k) => if P.cellsOf e = 1 then some [.s k] else none
      | _ => none
    | _ => (flatK P (fuel + 1) t).map (List.map KV.k)
section
variable {H : Type} {enc : TypeId × Value → H} {P : Program} {W : World}
theorem flatV_fields {spare : Nat → Bool} {held : Bool} {base fuel f2 : Nat} (ih : ∀ t ks cs x, flatV P fuel t = some ks → DataW.trod enc P W base spare held f2 t cs = some x → FitsV W ks cs) (tot : Nat) (cs : List Value) :
    ∀ (fs : List Field) (off : Nat) (ks : List KV),
      (fs.foldr (fun f acc => fun off => if f.offset = off then (flatV P fuel f.type).bind fun ks => if P.cellsOf f.type = ks.length then (acc (off + ks.length)).map (ks ++ ·) else none else none) (fun off => if tot = off then some [] else none)) off = some ks →
      (∀ f ∈ fs, ∃ y, DataW.trod enc P W base spare held f2 f.type ((cs.drop f.offset).take (P.cellsOf f.type)) = some y) → cs.length = tot → FitsV W ks (cs.drop off)
  | [], off, ks, h, _, hl => by
    simp only [List.foldr_nil] at h
    split at h
    · cases h
      rw [List.drop_eq_nil_of_le (by omega)]
      trivial
    · cases h
  | f :: fs, off, ks, h, hall, hl => by
    simp only [List.foldr_cons] at h
    split at h
    · rename_i hoff
      cases hk : flatV P fuel f.type with
      | none => rw [hk] at h; cases h
      | some k1 =>
        rw [hk] at h
        simp only [Option.bind_some] at h
        split at h
        · rename_i hc
          rw [Option.map_eq_some_iff] at h
          obtain ⟨k2, h2, rfl⟩ := h
          obtain ⟨y, hy⟩ := hall f (List.mem_cons_self ..)
          have f1 := ih _ _ _ _ hk hy
          have r := flatV_fields ih tot cs fs (off + k1.length) k2 h2 (fun g hg => hall g (List.mem_cons_of_mem _ hg)) hl
          rw [hoff, hc] at f1
          have e : cs.drop off = (cs.drop off).take k1.length ++ cs.drop (off + k1.length) := by
            rw [← List.drop_drop, List.take_append_drop]
          rw [e]
          exact f1.append r
        · cases h
    · cases h
theorem flatV_ints {spare : Nat → Bool} {held : Bool} {f2 : Nat} {t e : TypeId} {k : IntKind} {cs : List Value} {x : DataW H × List MemPlace} (ht : P.underlying t = some (.slice e)) (he : P.underlying e = some (.int k)) (hc : P.cellsOf e = 1) (h : DataW.trod enc P W 0 spare held f2 t cs = some x) :
    ∃ v, cs = [v] ∧ ∃ xs : List Int, (rdN v xs.length (xs.map (Value.int k))).holds W ∧ ∀ n ∈ xs, (Lit.int k n).wf = true := by
  rcases DataW.trod_slice ht h with ⟨rfl, _⟩ | ⟨a, len, cap, elems, rest, n, _, rfl, _, hb, hl, hm, hlen, hel, _⟩
  · exact ⟨_, rfl, [], .inl ⟨rfl, rfl, rfl⟩, by simp⟩
  · have hex : ∀ i, i < len → ∃ m : Int, W.cell? (a.add i) = some (.int k m) ∧ (Lit.int k m).wf = true := by
      intro i hi
      have h1 := hel i hi
      rw [hc, Nat.mul_one, List.getElem?_eq_getElem (by omega), Option.bind_eq_some_iff] at h1
      obtain ⟨cs, h2, h3⟩ := h1
      obtain ⟨m, hm2, _, hw⟩ := DataW.trod_int he h3
      subst hm2
      have h4 := (cells_get h2).2 0 (by omega)
      rw [add_add, Nat.add_zero] at h4
      exact ⟨m, h4, hw⟩
    obtain ⟨xs, h1, h2⟩ : ∃ xs : List Int, xs.length = len ∧ ∀ i, i < len → ∃ m, xs[i]? = some m ∧ W.cell? (a.add i) = some (.int k m) ∧ (Lit.int k m).wf = true := by
      refine ⟨(List.range len).map fun i => if hi : i < len then (hex i hi).choose else 0, by simp, fun i hi => ⟨(hex i hi).choose, ?_, (hex i hi).choose_spec⟩⟩
      simp [hi]
    refine ⟨_, rfl, xs, .inr ⟨a, cap, by rw [h1], by omega, hm, fun j u hj => ?_⟩, fun m hm => ?_⟩
    · have hj' : j < len := by have := (List.getElem?_eq_some_iff.1 hj).1; simpa [h1] using this
      obtain ⟨m, g1, g2, _⟩ := h2 j hj'
      rw [List.getElem?_map, g1] at hj
      cases hj
      exact g2
    · obtain ⟨i, hi⟩ := List.getElem?_of_mem hm
      obtain ⟨m', g1, _, g3⟩ := h2 i (by have := (List.getElem?_eq_some_iff.1 hi).1; omega)
      rw [hi] at g1
      cases g1
      exact g3
theorem flatV_cells {spare : Nat → Bool} {held : Bool} : ∀ (fuel : Nat) (f2 : Nat) (t : TypeId) (ks : List KV) (cs : List Value) (x : DataW H × List MemPlace),
    flatV P fuel t = some ks → DataW.trod enc P W 0 spare held f2 t cs = some x → FitsV W ks cs
  | 0, _, _, _, _, _, h, _ => (by cases h)
  | fuel + 1, 0, _, _, _, _, _, h => (by cases h)
  | fuel + 1, f2 + 1, t, ks, cs, x, h, hx => by
    have hflat : (flatK P (fuel + 1) t).map (List.map KV.k) = some ks → FitsV W ks cs := fun h => by
      rw [Option.map_eq_some_iff] at h
      obtain ⟨k1, h1, rfl⟩ := h
      exact .of (flat_cells _ _ _ _ _ _ h1 hx)
    unfold flatV at h
    cases ht : P.underlying t with
    | none => rw [ht] at h; exact hflat h
    | some d =>
      rw [ht] at h
      cases d with
      | struct fs =>
        simp only at h
        unfold DataW.trod at hx
        rw [ht] at hx
        simp only at hx
        split at hx
        · rename_i hlen
          rw [Option.map_eq_some_iff] at hx
          obtain ⟨ys, hys, _⟩ := hx
          have := flatV_fields (fun t ks cs x => flatV_cells fuel f2 t ks cs x) (P.cellsOf t) cs fs.toList 0 ks h (fun f hf => mapM_each hys f hf) hlen
          simpa using this
        · cases hx
      | slice e =>
        simp only at h
        split at h
        · rename_i k he
          split at h
          · rename_i hc
            cases h
            obtain ⟨v, rfl, hv⟩ := flatV_ints ht he hc hx
            exact ⟨hv, trivial⟩
          · cases h
        · cases h
      | _ => exact hflat h
theorem open_rowsV {v : Value} {d : DataW H} {p : List MemPlace} {base : Nat} {t e : TypeId} {ks : List KV} (fuel : Nat) (ht : P.underlying t = some (.slice e)) (hk : flatV P fuel e = some ks) (hc : P.cellsOf e = ks.length) (h0 : 0 < ks.length)
    (hval : Value.okWide P W .any base t v) (h : DataW.Trod enc P W 0 (fun _ => true) true t v d p) : ∃ ess : List (List Value), (rdN v ess.length ess.flatten).holds W ∧ ∀ es ∈ ess, FitsV W ks es := by
  obtain ⟨a0, len0, cap0, rfl⟩ := okWide_slice ht hval
  obtain ⟨f2, hf⟩ := h
  rcases DataW.trod_slice ht hf with ⟨hcs, _⟩ | ⟨a, len, cap, elems, rest, n, _, hcs, _, hb, hl, hm, hlen, hel, _⟩
  · simp [Value.cells] at hcs
    obtain ⟨rfl, rfl, rfl⟩ := hcs
    exact ⟨[], .inl ⟨rfl, rfl, rfl⟩, by simp⟩
  · simp [Value.cells] at hcs
    obtain ⟨rfl, rfl, rfl⟩ := hcs
    have hex : ∀ i, i < len0 → ∃ cs, W.cells? 0 (a.add (i * ks.length)) ks.length = some cs ∧ FitsV W ks cs := by
      intro i hi
      have h1 := hel i hi
      rw [hc, List.getElem?_eq_getElem (by omega), Option.bind_eq_some_iff] at h1
      obtain ⟨cs, h2, h3⟩ := h1
      exact ⟨cs, h2, flatV_cells fuel n e ks cs _ hk h3⟩
    obtain ⟨ess, h1, h2⟩ : ∃ ess : List (List Value), ess.length = len0 ∧ ∀ i, i < len0 → ∃ cs, ess[i]? = some cs ∧ W.cells? 0 (a.add (i * ks.length)) ks.length = some cs ∧ FitsV W ks cs := by
      refine ⟨(List.range len0).map fun i => if hi : i < len0 then (hex i hi).choose else [], by simp, fun i hi => ⟨(hex i hi).choose, ?_, (hex i hi).choose_spec⟩⟩
      simp [hi]
    have hfit : ∀ es ∈ ess, FitsV W ks es := by
      intro es hes
      obtain ⟨i, hi⟩ := List.getElem?_of_mem hes
      obtain ⟨cs, g1, g2, g3⟩ := h2 i (by have := (List.getElem?_eq_some_iff.1 hi).1; omega)
      rw [hi] at g1
      cases g1
      exact g3
    refine ⟨ess, .inr ⟨a, cap0, by rw [h1], by omega, hm, fun j u hj => ?_⟩, hfit⟩
    have hfl := flatten_len fun x hx => (hfit x hx).length
    have hj' : j < ess.length * ks.length := by have := (List.getElem?_eq_some_iff.1 hj).1; omega
    have hi : j / ks.length < len0 := by rw [← h1]; exact (Nat.div_lt_iff_lt_mul h0).2 hj'
    have ho := Nat.mod_lt j h0
    have hjj : j / ks.length * ks.length + j % ks.length = j := by rw [Nat.mul_comm]; exact Nat.div_add_mod ..
    obtain ⟨cs, g1, g2, g3⟩ := h2 _ hi
    rw [← hjj, flatten_at (fun x hx => (hfit x hx).length) ho, g1] at hj
    have := (cells_get g2).2 _ ho
    rw [add_add, hjj] at this
    rw [this]
    exact hj
theorem open_listV {α : Type} {v : Value} {d : DataW H} {p : List MemPlace} {base : Nat} {t e : TypeId} {ks : List KV} (c : α → Ch) (q : α → Prop) (hq : ∀ es, FitsV W ks es → ∃ x, es = flat (c x) ∧ q x) (fuel : Nat) (ht : P.underlying t = some (.slice e)) (hk : flatV P fuel e = some ks) (hc : P.cellsOf e = ks.length) (h0 : 0 < ks.length)
    (hval : Value.okWide P W .any base t v) (h : DataW.Trod enc P W 0 (fun _ => true) true t v d p) : ∃ l : List α, (rdN v l.length (l.map fun x => flat (c x)).flatten).holds W ∧ ∀ x ∈ l, q x := by
  obtain ⟨ess, h1, h2⟩ := open_rowsV fuel ht hk hc h0 hval h
  obtain ⟨r, rfl, hr⟩ := list_of (c := fun x => flat (c x)) (p := q) fun es hes => hq es (h2 es hes)
  exact ⟨r, by simpa using h1, hr⟩
end
end Go.Proofs.YtpilenbdimhegaaGreatDoor
/- Layer 1 (num): contracts. -/
namespace Go.Proofs.YtpilenbdimhegaaGreatDoor
open Go.RowKit
set_option linter.unusedSimpArgs false
set_option linter.unusedVariables false
set_option maxRecDepth 20000
set_option maxHeartbeats 4000000
attribute [local irreducible] WPc WPl WPq ReadR OpT BinR HasS bx rdN rowN Take Takes Prov Triple ResF BuildP Done ag Int.decLt Int.decLe Int.instDecidableEq

theorem numGood_t (k : Int) : Triple Tryz.prog 160 #[.int .i64 k] [] (RVal (.bool (decide (1 ≤ k) && decide (k ≤ 8)))) := by
  refine Triple.enter Tryz.func160 rfl Tryz.ntmps160 rfl (fun W => ?_)
  dsimp only [argsF, Nat.reduceAdd]
  repeat' (first
   | refine WPl.nil ?_ | refine WPq.then ?_ | refine WPc.seq ?_ | refine WPc.ret ?_ | refine WPc.region ?_
   | (refine isOp ?_; first | refine WPl.rd ?_ | refine WPl.sk ?_ | refine WPl.rdB ?_)
   | (refine WPl.spQ (fun hc => ?_) (fun hc => ?_) <;> try exact prA)
   | fail)
  all_goals exact WPq.dV (hc := by simp [resV]; try omega)

theorem clone_t (v : Value) (l : List UInt8) (hl : l.length ≤ 1000000000) : Triple Tryz.prog 37 #[v] [rb v l] (ROb l) := by
  refine Triple.enter Tryz.func37 rfl Tryz.ntmps37 rfl (fun W => ?_)
  dsimp only [argsF, Nat.reduceAdd]
  refine WPc.nilRow 5 ?_
  repeat' (first
   | refine WPl.nil ?_ | refine WPq.then ?_ | refine WPc.seq ?_ | refine WPc.region ?_
   | (refine isOp ?_; first | refine WPl.rd ?_ | refine WPl.sk ?_ | refine WPl.rdB ?_)
   | fail)
  refine WPc.cS (fun hc => WPc.know (HasS.nilLen hasA hc) fun h0 => ?_) (fun hc => ?_)
  · obtain rfl := List.length_eq_zero_iff.1 h0
    repeat' (first
     | refine WPl.nil ?_ | refine WPq.then ?_ | refine WPq.thenR ?_ | refine WPc.seq ?_ | refine WPc.ret ?_ | refine WPc.region ?_
     | (refine isOp ?_; first | refine WPl.rd ?_ | refine WPl.sk ?_ | refine WPl.rdB ?_)
     | fail)
    all_goals try (first | exact WPq.dTp | exact WPq.dTs | exact WPq.dV | exact WPq.dR | exact WPq.dR2 | exact WPq.dH | exact WPq.dBH | exact WPq.dT)
  · skip
    repeat' (first
     | refine WPl.nil ?_ | refine WPq.then ?_ | refine WPc.seq ?_ | refine WPc.ret ?_ | refine WPc.skip ?_ | refine WPc.region ?_
     | (refine isLit ?_; refine WPl.lit fun v hv => ?_)
     | (refine isApp ?_; refine WPl.app fun v hv => ?_)
     | (refine isOp ?_; first | refine WPl.rd ?_ | refine WPl.sk ?_ | refine WPl.rdB ?_)
     | fail)
    all_goals try (first | exact WPq.dTp | exact WPq.dTs | exact WPq.dV | exact WPq.dR | exact WPq.dR2 | exact WPq.dH | exact WPq.dBH | exact WPq.dT)

theorem cut_t (v : Value) (l : List UInt8) (k n : Nat) (h : k + n ≤ l.length) (hl : l.length ≤ 1000000000) :
    Triple Tryz.prog 159 #[v, .int .i64 k, .int .i64 n] [rb v l] (RVal (.tuple #[subv 1 v k n, .bool true])) := by
  refine Triple.enter Tryz.func159 rfl Tryz.ntmps159 rfl (fun W => ?_)
  dsimp only [argsF, Nat.reduceAdd]
  repeat' (first
   | refine WPl.nil ?_ | refine WPq.then ?_ | refine WPc.seq ?_ | refine WPc.ret ?_ | refine WPc.skip ?_ | refine WPc.region ?_
   | (refine isCond ?_; first | refine WPc.cT ?_ | refine WPc.cF ?_ | (refine WPc.cQ (fun hc => ?_) (fun hc => ?_) <;> try exact prA))
   | (refine isOp ?_; first | refine WPl.rd ?_ | refine WPl.sk ?_ | refine WPl.rdB ?_)
   | (refine WPl.spQ (fun hc => ?_) (fun hc => ?_) <;> try exact prA)
   | fail)
  all_goals try simp only [Nat.add_sub_cancel_left]
  all_goals try (first | exact WPq.dTp | exact WPq.dTs | exact WPq.dV | exact WPq.dR | exact WPq.dR2 | exact WPq.dH | exact WPq.dBH | exact WPq.dT)

theorem get_t (v : Value) (l : List UInt8) (k n : Nat) (h : k + n ≤ l.length) (hl : l.length ≤ 1000000000) (h1 : 1 ≤ n) (h8 : n ≤ 8) :
    Triple Tryz.prog 131 #[v, .int .i64 k, .int .i64 n] [rb v l] (RVal (.tuple #[.int .u64 (val (seg l k n) : Nat), .bool true])) := by
  refine Triple.enter Tryz.func131 rfl Tryz.ntmps131 rfl (fun W => ?_)
  dsimp only [argsF, Nat.reduceAdd]
  repeat' (first
   | refine WPl.nil ?_ | refine WPq.then ?_ | refine WPc.seq ?_ | refine WPc.block ?_ | refine WPc.skip ?_ | refine WPc.region ?_
   | (refine isCond ?_; first | refine WPc.cT ?_ | refine WPc.cF ?_ | (refine WPc.cQ (fun hc => ?_) (fun hc => ?_) <;> try exact prA))
   | (refine isCl ?_; refine WPl.cV (cut_t _ _ _ _ h hl) ?_)
   | (refine isCl ?_; refine WPl.cV (numGood_t _) ?_)
   | (refine isOp ?_; first | refine WPl.rd ?_ | refine WPl.sk ?_ | refine WPl.rdB ?_)
   | fail)
  have hn := seg_length h
  have hbd : ∀ i, i < n → val ((seg l k n).take i) < 72057594037927936 := fun i hi => by
    have := val_lt ((seg l k n).take i)
    have h2 : 256 ^ ((seg l k n).take i).length ≤ 256 ^ 7 := Nat.pow_le_pow_right (by decide) (by rw [List.length_take]; omega)
    have : (256 : Nat) ^ 7 = 72057594037927936 := by decide
    omega
  first | refine WPc.loop (σ := Nat) (fun i => i ≤ n) (fun i => [rb v l]) (fun i => [(27, subv 1 v k n), (28, .int .i64 (seg l k n).length), (29, .int .i64 i), (10, .int .u64 (val ((seg l k n).take i) : Nat))]) (fun i => n - i) (0) ?_ takesA frsA (fun st km hx hk => ?_)
  · omega
  obtain ⟨x, rfl⟩ : ∃ x, x = st := ⟨_, rfl⟩
  have hb := hbd x
  repeat' (first
   | refine WPl.nil ?_ | refine WPq.then ?_ | refine WPq.thenE ?_ | refine WPq.blockN ?_ | refine WPq.blockE ?_ | refine WPc.seq ?_ | refine WPc.block ?_ | refine WPc.ret ?_ | refine WPc.exit ?_ | refine WPc.skip ?_ | refine WPc.region ?_
   | (refine isCond ?_; first | refine WPc.cT ?_ | refine WPc.cF ?_ | (refine WPc.cQ (fun hc => ?_) (fun hc => ?_) <;> try exact prA))
   | (show WPl _ _ _ _ _ _ _ (⟨_, .binOp .shl _ _ _ _, _, _, _, _⟩ :: _) _; refine WPl.rdX (ReadR.bin rfl rfl (BinR.shl8 (hb (by omega)))) ?_)
   | (show WPl _ _ _ _ _ _ _ (⟨_, .binOp .or _ _ _ _, _, _, _, _⟩ :: _) _; refine WPl.rdX (ReadR.bin rfl rfl (BinR.or8 (hb (by omega)) (UInt8.toNat_lt _))) ?_)
   | (show WPl _ _ _ _ _ _ _ (⟨_, .convert _ _ _, _, _, _, _⟩ :: _) _; refine WPl.rdX (ReadR.conv rfl conv_u8) ?_)
   | (refine isOp ?_; first | refine WPl.rd ?_ | refine WPl.sk ?_ | refine WPl.rdB ?_)
   | fail)
  · refine WPq.rnd (x + 1) (by omega) (by omega) takesA ?_
    rw [val_take _ (by omega)]
    exact frsA
  · exact WPq.dV (hc := by rw [show x = n by omega, List.take_of_length_le (by omega)]; rfl)

theorem put_t (v : Value) (l : List UInt8) (x n : Nat) (hl : l.length ≤ 1000000) (hx : x < 18446744073709551616) (h1 : 1 ≤ n) (h8 : n ≤ 8) :
    Triple Tryz.prog 144 #[v, .int .u64 x, .int .i64 n] [rb v l] (ROb (l ++ be x n)) := by
  refine Triple.enter Tryz.func144 rfl Tryz.ntmps144 rfl (fun W => ?_)
  dsimp only [argsF, Nat.reduceAdd]
  repeat' (first
   | refine WPl.nil ?_ | refine WPq.then ?_ | refine WPc.seq ?_ | refine WPc.block ?_ | refine WPc.skip ?_ | refine WPc.region ?_
   | (refine isCond ?_; first | refine WPc.cT ?_ | refine WPc.cF ?_ | (refine WPc.cQ (fun hc => ?_) (fun hc => ?_) <;> try exact prA))
   | (refine isCl ?_; refine WPl.cR (clone_t _ _ ?_) fun v hv => ?_; (first | omega | assumption | fail))
   | (refine isCl ?_; refine WPl.cV (numGood_t _) ?_)
   | (refine isOp ?_; first | refine WPl.rd ?_ | refine WPl.sk ?_ | refine WPl.rdB ?_)
   | fail)
  have hbl := be_length x n
  first | refine WPc.loop (σ := Value × Nat × List UInt8) (fun p => p.2.1 ≤ n ∧ p.1.oneCell' = true ∧ p.2.2 = l ++ (be x n).take (n - p.2.1)) (fun p => [ob p.1 p.2.2]) (fun p => [(7, p.1), (8, .int .i64 ((p.2.1 : Int) - 1)), (1, .int .u64 x)]) (fun p => p.2.1) ((v, n, l)) ?_ takesA frsA (fun st km hx hk => ?_)
  · simp; assumption
  obtain ⟨s, m, c⟩ := st
  dsimp only at hx hk ⊢
  obtain ⟨hm, hs, hcc⟩ := hx
  have hcl : c.length = l.length + (n - m) := by rw [hcc, List.length_append, List.length_take]; omega
  repeat' (first
   | refine WPl.nil ?_ | refine WPq.then ?_ | refine WPq.thenE ?_ | refine WPq.blockN ?_ | refine WPq.blockE ?_ | refine WPc.seq ?_ | refine WPc.block ?_ | refine WPc.ret ?_ | refine WPc.exit ?_ | refine WPc.skip ?_ | refine WPc.region ?_
   | (refine isCond ?_; first | refine WPc.cT ?_ | refine WPc.cF ?_ | (refine WPc.cQ (fun hc => ?_) (fun hc => ?_) <;> try exact prA))
   | (show WPl _ _ _ _ _ _ _ (⟨_, .binOp .shr _ _ _ _, _, _, _, _⟩ :: _) _; refine WPl.rdX (ReadR.bin rfl rfl (BinR.shrI (by omega) (by show _ ≤ (64 : Int); omega))) ?_)
   | (refine isLit ?_; refine WPl.lit fun v hv => ?_)
   | (refine isApp ?_; refine WPl.app fun v hv => ?_)
   | (refine isOp ?_; first | refine WPl.rd ?_ | refine WPl.sk ?_ | refine WPl.rdB ?_)
   | fail)
  · refine WPq.rnd (v, m - 1, _) ⟨by show m - 1 ≤ n; omega, hv, ?_⟩ (by show m - 1 < km; omega) takesA ?_
    · show c ++ nbs [_] = _
      rw [nbs_u8, nbs_nil, hcc, show n - (m - 1) = n - m + 1 by omega, take_snoc _ (by omega), be_get x (by omega), show n - 1 - (n - m) = m - 1 by omega,
        show (8 * ((m : Int) - 1)).toNat = 8 * (m - 1) by omega, Nat.pow_mul, List.append_assoc]
    · dsimp only
      rw [show (((m - 1 : Nat) : Int) - 1) = (m : Int) - 1 - 1 by omega]
      exact frsA
  · obtain rfl : m = 0 := by omega
    rw [hcc, Nat.sub_zero, List.take_of_length_le (by omega)]
    all_goals try (first | exact WPq.dTp | exact WPq.dTs | exact WPq.dV | exact WPq.dR | exact WPq.dR2 | exact WPq.dH | exact WPq.dBH | exact WPq.dT)
theorem bytes_t (v : Value) (vs : List Value) (ls : List (List UInt8)) (h : vs.length = ls.length) (hl : ls.flatten.length ≤ 1000000) (h0 : vs.length ≤ 1000000) :
    Triple Tryz.prog 143 #[v] (rdN v vs.length vs :: rbz vs ls) (ROb ls.flatten) := by
  refine Triple.enter Tryz.func143 rfl Tryz.ntmps143 rfl (fun W => ?_)
  dsimp only [argsF, Nat.reduceAdd]
  refine WPc.nilRow 5 ?_
  repeat' (first
   | refine WPl.nil ?_ | refine WPq.then ?_ | refine WPc.seq ?_ | refine WPc.block ?_ | refine WPc.region ?_
   | (refine isOp ?_; first | refine WPl.rd ?_ | refine WPl.sk ?_ | refine WPl.rdB ?_)
   | fail)
  first | refine WPc.loop (σ := Value × Nat × List UInt8) (fun p => p.2.1 ≤ ls.length ∧ p.1.oneCell' = true ∧ p.2.2 = (ls.take p.2.1).flatten) (fun p => ob p.1 p.2.2 :: rdN v vs.length vs :: rbz vs ls) (fun p => [(3, p.1), (6, v), (7, .int .i64 vs.length), (8, .int .i64 p.2.1)]) (fun p => ls.length - p.2.1) ((.slice none 0 0, 0, [])) ?_ takesA frsA (fun st km hx hk => ?_)
  · exact ⟨Nat.zero_le _, rfl, rfl⟩
  obtain ⟨s, i, c⟩ := st
  dsimp only at hx hk ⊢
  obtain ⟨hi, hs, hcc⟩ := hx
  by_cases hlt : i < ls.length
  · obtain ⟨u, hu⟩ : ∃ u, vs[i]? = some u := ⟨_, List.getElem?_eq_getElem (by omega)⟩
    obtain ⟨l, hl'⟩ : ∃ l, ls[i]? = some l := ⟨_, List.getElem?_eq_getElem hlt⟩
    refine WPc.dup (A := rb u l) (List.Mem.tail _ (List.Mem.tail _ (mem_rbz hu hl'))) rdN_own ?_
    have e : (ls.take (i + 1)).flatten = c ++ l := by rw [hcc, List.take_add_one, hl']; simp
    have hle : (c ++ l).length ≤ ls.flatten.length := by
      rw [← e, ← List.take_append_drop (i + 1) ls, List.flatten_append]; simp
    rw [List.length_append] at hle
    repeat' (first
     | refine WPl.nil ?_ | refine WPq.then ?_ | refine WPq.blockN ?_ | refine WPc.seq ?_ | refine WPc.block ?_ | refine WPc.skip ?_ | refine WPc.region ?_
     | (refine isCond ?_; first | refine WPc.cT ?_ | refine WPc.cF ?_ | (refine WPc.cQ (fun hc => ?_) (fun hc => ?_) <;> try exact prA))
     | (show WPl _ _ _ _ _ _ _ (⟨_, .load _ _, _, _, _, _⟩ :: _) _; refine WPl.rdX ((by apply ReadR.loadE; exact rfl; exact hasA; exact hu)) ?_)
     | (refine isApp ?_; refine WPl.app fun v hv => ?_)
     | (refine isOp ?_; first | refine WPl.rd ?_ | refine WPl.sk ?_ | refine WPl.rdB ?_)
     | fail)
    exact WPq.rnd (v, i + 1, c ++ l) ⟨by show i + 1 ≤ _; omega, hv, e.symm⟩ (by show _ - (i + 1) < km; omega)
  · obtain rfl : i = ls.length := by omega
    repeat' (first
     | refine WPl.nil ?_ | refine WPq.then ?_ | refine WPq.thenE ?_ | refine WPq.blockE ?_ | refine WPc.seq ?_ | refine WPc.ret ?_ | refine WPc.exit ?_ | refine WPc.region ?_
     | (refine isCond ?_; first | refine WPc.cT ?_ | refine WPc.cF ?_ | (refine WPc.cQ (fun hc => ?_) (fun hc => ?_) <;> try exact prA))
     | (refine isOp ?_; first | refine WPl.rd ?_ | refine WPl.sk ?_ | refine WPl.rdB ?_)
     | fail)
    rw [hcc, List.take_length]
    all_goals try (first | exact WPq.dTp | exact WPq.dTs | exact WPq.dV | exact WPq.dR | exact WPq.dR2 | exact WPq.dH | exact WPq.dBH | exact WPq.dT)
end Go.Proofs.YtpilenbdimhegaaGreatDoor
/- Layer 11 (inet): contracts. -/
namespace Go.Proofs.YtpilenbdimhegaaGreatDoor
open Go.RowKit
set_option linter.unusedSimpArgs false
set_option linter.unusedVariables false
set_option maxRecDepth 20000
set_option maxHeartbeats 4000000
attribute [local irreducible] WPc WPl WPq ReadR OpT BinR HasS bx rdN rowN Take Takes Prov Triple ResF BuildP Done ag Int.decLt Int.decLe Int.instDecidableEq

theorem par_snoc (b : Bool) (l : List UInt8) (c : UInt8) : par b (l ++ [c]) = !(par b l) := by rw [par_append]; rfl
theorem wsum_snoc (b : Bool) (l : List UInt8) (c : UInt8) : wsum b (l ++ [c]) = wsum b l + (if par b l then 256 * c.toNat else c.toNat) := by
  rw [wsum_append]; cases par b l <;> simp [wsum]
abbrev adr (g : Nat) (m : Nat) (odd : Bool) : Asn := bx g 243 [(1, [.int .u64 (m : Int)]), (1, [.bool odd])]

theorem add_t (g : Nat) (m : Nat) (odd : Bool) (v : Value) (l : List UInt8) (m' : Nat) (odd' : Bool) (h1 : m' = m + wsum (!odd) l) (h2 : odd' = !(par (!odd) l)) (hl : l.length ≤ 1000000000) (hm : m ≤ 1000000000000000) :
    Triple Tryz.prog 166 #[.pointer (some ⟨g, 0, none⟩), v] ([rb v l] ++ [adr g m odd])
      (RTurn (.tuple #[]) (adr g m' odd')) := by
  refine Triple.enter Tryz.func166 rfl Tryz.ntmps166 rfl (fun W => ?_)
  dsimp only [argsF, Nat.reduceAdd]
  repeat' (first
   | refine WPl.nil ?_ | refine WPq.then ?_ | refine WPc.seq ?_ | refine WPc.block ?_ | refine WPc.region ?_
   | (refine isOp ?_; first | refine WPl.rd ?_ | refine WPl.sk ?_ | refine WPl.rdB ?_)
   | fail)
  first | refine WPc.loop (σ := Nat × Nat × Bool) (fun p => p.1 ≤ l.length ∧ p.2.1 = m + wsum (!odd) (l.take p.1) ∧ p.2.2 = !(par (!odd) (l.take p.1))) (fun p => [rb v l, adr g p.2.1 p.2.2]) (fun p => [(0, .pointer (some ⟨g, 0, none⟩)), (7, v), (8, .int .i64 l.length), (9, .int .i64 p.1)]) (fun p => l.length - p.1) ((0, m, odd)) ?_ takesA frsA (fun st km hx hk => ?_)
  · simp [wsum, par]
  obtain ⟨i, c, o⟩ := st
  dsimp only at hx hk ⊢
  obtain ⟨hi, hc1, hc2⟩ := hx
  by_cases hlt : i < l.length
  · have hb := (l.getD i 0).toNat_lt
    have hw := wsum_le (!odd) (l.take i)
    have hL : (l.take i).length ≤ 1000000000 := by rw [List.length_take]; omega
    have e1 := wsum_snoc (!odd) (l.take i) (l.getD i 0)
    have e2 := par_snoc (!odd) (l.take i) (l.getD i 0)
    rw [← take_snoc l hlt] at e1 e2
    have hbd : c ≤ 100000000000000000 := by omega
    clear hw
    repeat' (first
     | refine WPl.nil ?_ | refine WPq.then ?_ | refine WPq.blockN ?_ | refine WPc.seq ?_ | refine WPc.block ?_ | refine WPc.skip ?_ | refine WPc.region ?_
     | (refine isCond ?_; first | refine WPc.cT ?_ | refine WPc.cF ?_ | (refine WPc.cQ (fun hc => ?_) (fun hc => ?_) <;> try exact prA))
     | (show WPl _ _ _ _ _ _ _ (⟨_, .convert _ _ _, _, _, _, _⟩ :: _) _; refine WPl.rdX (ReadR.conv rfl conv_u8) ?_)
     | (refine isOp ?_; first | refine WPl.rd ?_ | refine WPl.sk ?_ | refine WPl.rdB ?_)
     | (refine isSt ?_; first | refine WPl.st1 ?_ | refine WPl.stA ?_ | refine WPl.stEB ?_ | refine WPl.stRB ?_)
     | fail)
    · have : o = false := by simpa using hc
      subst this
      have hp : par (!odd) (l.take i) = true := by simpa using hc2.symm
      rw [hp] at e1 e2
      rw [show ((c : Int) + ((l.getD i 0).toNat : Int) * 2 ^ 8) = ((c + 256 * (l.getD i 0).toNat : Nat) : Int) by omega]
      exact WPq.rnd (i + 1, c + 256 * (l.getD i 0).toNat, true) ⟨by show i + 1 ≤ _; omega, by show _ = m + wsum _ _; rw [e1]; simp; omega, by show true = _; rw [e2]; rfl⟩ (by show _ - (i + 1) < km; omega)
    · have : o = true := by simpa using hc
      subst this
      have hp : par (!odd) (l.take i) = false := by simpa using hc2.symm
      rw [hp] at e1 e2
      rw [show ((c : Int) + ((l.getD i 0).toNat : Int)) = ((c + (l.getD i 0).toNat : Nat) : Int) by omega]
      exact WPq.rnd (i + 1, c + (l.getD i 0).toNat, false) ⟨by show i + 1 ≤ _; omega, by show _ = m + wsum _ _; rw [e1]; simp; omega, by show false = _; rw [e2]; rfl⟩ (by show _ - (i + 1) < km; omega)
  · obtain rfl : i = l.length := by omega
    rw [List.take_length] at hc1 hc2
    obtain rfl : m' = c := by omega
    obtain rfl : odd' = o := by rw [h2, hc2]
    repeat' (first
     | refine WPl.nil ?_ | refine WPq.then ?_ | refine WPq.thenE ?_ | refine WPq.blockE ?_ | refine WPc.seq ?_ | refine WPc.exit ?_ | refine WPc.region ?_
     | (refine isCond ?_; first | refine WPc.cT ?_ | refine WPc.cF ?_ | (refine WPc.cQ (fun hc => ?_) (fun hc => ?_) <;> try exact prA))
     | (refine isOp ?_; first | refine WPl.rd ?_ | refine WPl.sk ?_ | refine WPl.rdB ?_)
     | fail)
    all_goals try (first | exact WPq.dTp | exact WPq.dTs | exact WPq.dV | exact WPq.dR | exact WPq.dR2 | exact WPq.dH | exact WPq.dBH | exact WPq.dT)

theorem folded_t (m : Nat) (hm : m ≤ 18446744073709551615) : Triple Tryz.prog 167 #[.int .u64 m] [] (RVal (.int .u16 (fold m))) := by
  refine Triple.enter Tryz.func167 rfl Tryz.ntmps167 rfl (fun W => ?_)
  dsimp only [argsF, Nat.reduceAdd]
  repeat' (first
   | refine WPl.nil ?_ | refine WPq.then ?_ | refine WPc.seq ?_ | refine WPc.block ?_ | refine WPc.region ?_
   | (refine isOp ?_; first | refine WPl.rd ?_ | refine WPl.sk ?_ | refine WPl.rdB ?_)
   | fail)
  first | refine WPc.loop (σ := Nat) (fun n => n ≤ 18446744073709551615 ∧ fold n = fold m) (fun n => []) (fun n => [(0, .int .u64 n)]) (fun n => n) (m) ?_ takesA frsA (fun st km hx hk => ?_)
  · exact ⟨hm, rfl⟩
  obtain ⟨c, rfl⟩ : ∃ c, c = st := ⟨_, rfl⟩
  obtain ⟨h1, h2⟩ := hx
  by_cases hlt : 65535 < c
  · skip
    repeat' (first
     | refine WPl.nil ?_ | refine WPq.then ?_ | refine WPq.blockN ?_ | refine WPc.seq ?_ | refine WPc.block ?_ | refine WPc.skip ?_ | refine WPc.region ?_
     | (refine isCond ?_; first | refine WPc.cT ?_ | refine WPc.cF ?_ | (refine WPc.cQ (fun hc => ?_) (fun hc => ?_) <;> try exact prA))
     | (refine isOp ?_; first | refine WPl.rd ?_ | refine WPl.sk ?_ | refine WPl.rdB ?_)
     | fail)
    refine WPq.rnd (c % 65536 + c / 65536) ⟨by omega, by rw [fold_step, h2]⟩ (by omega) takesA ?_
    rw [show (((c % 65536 + c / 65536 : Nat) : Int)) = (c : Int) % (65535 + 1) + (c : Int) / 2 ^ 16 by omega]
    exact frsA
  · have e : fold c = c := fold_low (by omega)
    repeat' (first
     | refine WPl.nil ?_ | refine WPq.then ?_ | refine WPq.thenE ?_ | refine WPq.blockE ?_ | refine WPc.seq ?_ | refine WPc.ret ?_ | refine WPc.exit ?_ | refine WPc.region ?_
     | (refine isCond ?_; first | refine WPc.cT ?_ | refine WPc.cF ?_ | (refine WPc.cQ (fun hc => ?_) (fun hc => ?_) <;> try exact prA))
     | (refine isOp ?_; first | refine WPl.rd ?_ | refine WPl.sk ?_ | refine WPl.rdB ?_)
     | fail)
    exact WPq.dV (hc := by rw [← h2, e]; rfl)

theorem isum_t (v : Value) (vs : List Value) (ls : List (List UInt8)) (n : Nat) (hn : n = 65535 - fold (wsum true ls.flatten)) (h : vs.length = ls.length) (hl : ls.flatten.length ≤ 1000000) (h0 : vs.length ≤ 1000000) :
    Triple Tryz.prog 145 #[v] (rdN v vs.length vs :: rbz vs ls) (RVal (.int .u16 n)) := by
  refine Triple.enter Tryz.func145 rfl Tryz.ntmps145 rfl (fun W => ?_)
  dsimp only [argsF, Nat.reduceAdd]
  repeat' (first
   | refine WPl.nil ?_ | refine WPq.then ?_ | refine WPc.seq ?_ | refine WPc.block ?_ | refine WPc.region ?_
   | (refine isOp ?_; first | refine WPl.rd ?_ | refine WPl.sk ?_ | refine WPl.rdB ?_)
   | (refine isBx ?_; refine WPl.nw fun g => ?_)
   | fail)
  first | refine WPc.loop (σ := Nat × Nat × Bool) (fun p => p.1 ≤ ls.length ∧ p.2.1 = wsum true (ls.take p.1).flatten ∧ p.2.2 = !(par true (ls.take p.1).flatten)) (fun p => adr g p.2.1 p.2.2 :: rdN v vs.length vs :: rbz vs ls) (fun p => [(3, .pointer (some ⟨g, 0, none⟩)), (8, v), (9, .int .i64 vs.length), (10, .int .i64 p.1)]) (fun p => ls.length - p.1) ((0, 0, false)) ?_ takesA frsA (fun st km hx hk => ?_)
  · simp [wsum, par]
  obtain ⟨i, c, o⟩ := st
  dsimp only at hx hk ⊢
  obtain ⟨hi, hc1, hc2⟩ := hx
  by_cases hlt : i < ls.length
  · obtain ⟨u, hu⟩ : ∃ u, vs[i]? = some u := ⟨_, List.getElem?_eq_getElem (by omega)⟩
    obtain ⟨l, hl'⟩ : ∃ l, ls[i]? = some l := ⟨_, List.getElem?_eq_getElem hlt⟩
    refine WPc.dup (A := rb u l) (List.Mem.tail _ (List.Mem.tail _ (mem_rbz hu hl'))) rdN_own ?_
    have e : (ls.take (i + 1)).flatten = (ls.take i).flatten ++ l := by rw [List.take_add_one, hl']; simp
    have hle : ((ls.take i).flatten ++ l).length ≤ ls.flatten.length := by
      rw [← e, ← List.take_append_drop (i + 1) ls, List.flatten_append]; simp
    rw [List.length_append] at hle
    have hw := wsum_le true (ls.take i).flatten
    have hbd : c ≤ 100000000000000 := by omega
    have e1 := wsum_append true (ls.take i).flatten l
    have e2 := par_append true (ls.take i).flatten l
    have e3 : par true (ls.take i).flatten = !o := by rw [hc2]; simp
    rw [e3] at e1 e2
    repeat' (first
     | refine WPl.nil ?_ | refine WPq.then ?_ | refine WPq.blockN ?_ | refine WPc.seq ?_ | refine WPc.block ?_ | refine WPc.skip ?_ | refine WPc.region ?_
     | (refine isCond ?_; first | refine WPc.cT ?_ | refine WPc.cF ?_ | (refine WPc.cQ (fun hc => ?_) (fun hc => ?_) <;> try exact prA))
     | (show WPl _ _ _ _ _ _ _ (⟨_, .load _ _, _, _, _, _⟩ :: _) _; refine WPl.rdX ((by apply ReadR.loadE; exact rfl; exact hasA; exact hu)) ?_)
     | (refine isCl ?_; refine WPl.cT (add_t g c o u l _ _ rfl rfl (by omega) (by omega)) ?_)
     | (refine isOp ?_; first | refine WPl.rd ?_ | refine WPl.sk ?_ | refine WPl.rdB ?_)
     | fail)
    exact WPq.rnd (i + 1, c + wsum (!o) l, !(par (!o) l)) ⟨by show i + 1 ≤ _; omega, by show _ = wsum true _; rw [e, e1, hc1], by show _ = !(par true _); rw [e, e2]⟩ (by show _ - (i + 1) < km; omega)
  · obtain rfl : i = ls.length := by omega
    rw [List.take_length] at hc1 hc2
    have hw := wsum_le true ls.flatten
    have hf := fold_le c
    repeat' (first
     | refine WPl.nil ?_ | refine WPq.then ?_ | refine WPq.thenE ?_ | refine WPq.blockE ?_ | refine WPc.seq ?_ | refine WPc.ret ?_ | refine WPc.exit ?_ | refine WPc.region ?_
     | (refine isCond ?_; first | refine WPc.cT ?_ | refine WPc.cF ?_ | (refine WPc.cQ (fun hc => ?_) (fun hc => ?_) <;> try exact prA))
     | (refine isCl ?_; refine WPl.cV (folded_t c (by omega)) ?_)
     | (refine isOp ?_; first | refine WPl.rd ?_ | refine WPl.sk ?_ | refine WPl.rdB ?_)
     | fail)
    exact WPq.dV (hc := by
      show Value.int .u16 _ = Value.int .u16 _
      congr 1
      simp only [kmax]
      rw [hn, ← hc1]; omega)
theorem igood_t (v : Value) (vs : List Value) (ls : List (List UInt8)) (b : Bool) (hb : b = decide (csum ls.flatten = 0)) (h : vs.length = ls.length) (hl : ls.flatten.length ≤ 1000000) (h0 : vs.length ≤ 1000000) :
    Triple Tryz.prog 158 #[v] (rdN v vs.length vs :: rbz vs ls) (RVal (.bool b)) := by
  refine Triple.enter Tryz.func158 rfl Tryz.ntmps158 rfl (fun W => ?_)
  dsimp only [argsF, Nat.reduceAdd]
  repeat' (first
   | refine WPl.nil ?_ | refine WPq.then ?_ | refine WPc.seq ?_ | refine WPc.ret ?_ | refine WPc.region ?_
   | (refine isCl ?_; refine WPl.cV (isum_t v vs ls _ rfl h hl h0) ?_)
   | (refine isOp ?_; first | refine WPl.rd ?_ | refine WPl.sk ?_ | refine WPl.rdB ?_)
   | fail)
  exact WPq.dV (hc := by rw [hb]; exact boolV (by unfold csum; omega))

end Go.Proofs.YtpilenbdimhegaaGreatDoor
