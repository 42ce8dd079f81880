/- The shape of each Op: which of A, B and C it has. -/
import Derived.Test.YtljjdkjmciheeaaDoorNa
namespace Go.Proofs.YtljjdkjmciheeaaDoor.P
open Go.RowKit Go.Lib

set_option maxHeartbeats 2000000 in
set_option maxRecDepth 100000 in
theorem shape_0 (w : World) (hl : LaidW w) :
    Calls Tryd.prog 22 #[.int .i64 0] w fun e w' => e = .returned (.tuple #[.agg #[.string ⟨#[104, 97, 108, 116]⟩, .bool false, .bool false, .int .u8 0], .bool true]) ∧ Below w.heap.size w w' := by
  have HF := Lib.hid (show Calls Tryd.prog 54 #[.string ⟨#[104, 97, 108, 116, 32, 115, 101, 116, 32, 99, 111, 112, 121, 32, 97, 100, 100, 32, 115, 117, 98, 32, 109, 117, 108, 32, 100, 105, 118, 32, 108, 101, 115, 115, 32, 106, 117, 109, 112, 32, 105, 102, 32, 108, 111, 97, 100, 32, 115, 116, 111, 114, 101, 32, 109, 111, 118, 101, 32, 110, 97, 114, 114, 111, 119, 32, 100, 114, 111, 112, 32, 115, 101, 97, 108, 32, 111, 112, 101, 110, 32, 97, 115, 107, 32, 99, 97, 108, 108, 32, 98, 97, 99, 107, 32, 104, 101, 114, 101, 32, 99, 108, 101, 97, 114, 32, 116, 101, 108, 108]⟩] (w.alloc (.cells #[.string ⟨#[]⟩, .bool false, .bool false, .int .u8 0] 44)) _ from fields_any _ (hl.below ((Below.refl _ _).alloc (Nat.le_refl _) _)))
  go_enter Tryd.func22, Tryd.ntmps22
  go_wp2_with fail
  refine HF.out.mono ?_
  rintro e w1 ⟨rfl, rfl⟩
  have hx : wordsB[0]? = some ⟨#[104, 97, 108, 116]⟩ := rfl
  go_wp2
  refine bodyPost_ret (v := .tuple #[.agg #[.string ⟨#[104, 97, 108, 116]⟩, .bool false, .bool false, .int .u8 0], .bool true]) (by simp [results, Tryd.results22, go_sem]) rfl ⟨rfl, ?_⟩
  exact (((Below.refl _ _).alloc (Nat.le_refl _) _).alloc (by simp) _).alloc (by simp; omega) _

set_option maxHeartbeats 2000000 in
set_option maxRecDepth 100000 in
theorem shape_1 (w : World) (hl : LaidW w) :
    Calls Tryd.prog 22 #[.int .i64 1] w fun e w' => e = .returned (.tuple #[.agg #[.string ⟨#[115, 101, 116]⟩, .bool true, .bool false, .int .u8 110], .bool true]) ∧ Below w.heap.size w w' := by
  have HF := Lib.hid (show Calls Tryd.prog 54 #[.string ⟨#[104, 97, 108, 116, 32, 115, 101, 116, 32, 99, 111, 112, 121, 32, 97, 100, 100, 32, 115, 117, 98, 32, 109, 117, 108, 32, 100, 105, 118, 32, 108, 101, 115, 115, 32, 106, 117, 109, 112, 32, 105, 102, 32, 108, 111, 97, 100, 32, 115, 116, 111, 114, 101, 32, 109, 111, 118, 101, 32, 110, 97, 114, 114, 111, 119, 32, 100, 114, 111, 112, 32, 115, 101, 97, 108, 32, 111, 112, 101, 110, 32, 97, 115, 107, 32, 99, 97, 108, 108, 32, 98, 97, 99, 107, 32, 104, 101, 114, 101, 32, 99, 108, 101, 97, 114, 32, 116, 101, 108, 108]⟩] (w.alloc (.cells #[.string ⟨#[]⟩, .bool false, .bool false, .int .u8 0] 44)) _ from fields_any _ (hl.below ((Below.refl _ _).alloc (Nat.le_refl _) _)))
  go_enter Tryd.func22, Tryd.ntmps22
  go_wp2_with fail
  refine HF.out.mono ?_
  rintro e w1 ⟨rfl, rfl⟩
  have hx : wordsB[1]? = some ⟨#[115, 101, 116]⟩ := rfl
  go_wp2
  refine bodyPost_ret (v := .tuple #[.agg #[.string ⟨#[115, 101, 116]⟩, .bool true, .bool false, .int .u8 110], .bool true]) (by simp [results, Tryd.results22, go_sem]) rfl ⟨rfl, ?_⟩
  exact (((Below.refl _ _).alloc (Nat.le_refl _) _).alloc (by simp) _).alloc (by simp; omega) _

set_option maxHeartbeats 2000000 in
set_option maxRecDepth 100000 in
theorem shape_2 (w : World) (hl : LaidW w) :
    Calls Tryd.prog 22 #[.int .i64 2] w fun e w' => e = .returned (.tuple #[.agg #[.string ⟨#[99, 111, 112, 121]⟩, .bool true, .bool true, .int .u8 0], .bool true]) ∧ Below w.heap.size w w' := by
  have HF := Lib.hid (show Calls Tryd.prog 54 #[.string ⟨#[104, 97, 108, 116, 32, 115, 101, 116, 32, 99, 111, 112, 121, 32, 97, 100, 100, 32, 115, 117, 98, 32, 109, 117, 108, 32, 100, 105, 118, 32, 108, 101, 115, 115, 32, 106, 117, 109, 112, 32, 105, 102, 32, 108, 111, 97, 100, 32, 115, 116, 111, 114, 101, 32, 109, 111, 118, 101, 32, 110, 97, 114, 114, 111, 119, 32, 100, 114, 111, 112, 32, 115, 101, 97, 108, 32, 111, 112, 101, 110, 32, 97, 115, 107, 32, 99, 97, 108, 108, 32, 98, 97, 99, 107, 32, 104, 101, 114, 101, 32, 99, 108, 101, 97, 114, 32, 116, 101, 108, 108]⟩] (w.alloc (.cells #[.string ⟨#[]⟩, .bool false, .bool false, .int .u8 0] 44)) _ from fields_any _ (hl.below ((Below.refl _ _).alloc (Nat.le_refl _) _)))
  go_enter Tryd.func22, Tryd.ntmps22
  go_wp2_with fail
  refine HF.out.mono ?_
  rintro e w1 ⟨rfl, rfl⟩
  have hx : wordsB[2]? = some ⟨#[99, 111, 112, 121]⟩ := rfl
  go_wp2
  refine bodyPost_ret (v := .tuple #[.agg #[.string ⟨#[99, 111, 112, 121]⟩, .bool true, .bool true, .int .u8 0], .bool true]) (by simp [results, Tryd.results22, go_sem]) rfl ⟨rfl, ?_⟩
  exact (((Below.refl _ _).alloc (Nat.le_refl _) _).alloc (by simp) _).alloc (by simp; omega) _

set_option maxHeartbeats 2000000 in
set_option maxRecDepth 100000 in
theorem shape_3 (w : World) (hl : LaidW w) :
    Calls Tryd.prog 22 #[.int .i64 3] w fun e w' => e = .returned (.tuple #[.agg #[.string ⟨#[97, 100, 100]⟩, .bool true, .bool true, .int .u8 114], .bool true]) ∧ Below w.heap.size w w' := by
  have HF := Lib.hid (show Calls Tryd.prog 54 #[.string ⟨#[104, 97, 108, 116, 32, 115, 101, 116, 32, 99, 111, 112, 121, 32, 97, 100, 100, 32, 115, 117, 98, 32, 109, 117, 108, 32, 100, 105, 118, 32, 108, 101, 115, 115, 32, 106, 117, 109, 112, 32, 105, 102, 32, 108, 111, 97, 100, 32, 115, 116, 111, 114, 101, 32, 109, 111, 118, 101, 32, 110, 97, 114, 114, 111, 119, 32, 100, 114, 111, 112, 32, 115, 101, 97, 108, 32, 111, 112, 101, 110, 32, 97, 115, 107, 32, 99, 97, 108, 108, 32, 98, 97, 99, 107, 32, 104, 101, 114, 101, 32, 99, 108, 101, 97, 114, 32, 116, 101, 108, 108]⟩] (w.alloc (.cells #[.string ⟨#[]⟩, .bool false, .bool false, .int .u8 0] 44)) _ from fields_any _ (hl.below ((Below.refl _ _).alloc (Nat.le_refl _) _)))
  go_enter Tryd.func22, Tryd.ntmps22
  go_wp2_with fail
  refine HF.out.mono ?_
  rintro e w1 ⟨rfl, rfl⟩
  have hx : wordsB[3]? = some ⟨#[97, 100, 100]⟩ := rfl
  go_wp2
  refine bodyPost_ret (v := .tuple #[.agg #[.string ⟨#[97, 100, 100]⟩, .bool true, .bool true, .int .u8 114], .bool true]) (by simp [results, Tryd.results22, go_sem]) rfl ⟨rfl, ?_⟩
  exact (((Below.refl _ _).alloc (Nat.le_refl _) _).alloc (by simp) _).alloc (by simp; omega) _

set_option maxHeartbeats 2000000 in
set_option maxRecDepth 100000 in
theorem shape_4 (w : World) (hl : LaidW w) :
    Calls Tryd.prog 22 #[.int .i64 4] w fun e w' => e = .returned (.tuple #[.agg #[.string ⟨#[115, 117, 98]⟩, .bool true, .bool true, .int .u8 114], .bool true]) ∧ Below w.heap.size w w' := by
  have HF := Lib.hid (show Calls Tryd.prog 54 #[.string ⟨#[104, 97, 108, 116, 32, 115, 101, 116, 32, 99, 111, 112, 121, 32, 97, 100, 100, 32, 115, 117, 98, 32, 109, 117, 108, 32, 100, 105, 118, 32, 108, 101, 115, 115, 32, 106, 117, 109, 112, 32, 105, 102, 32, 108, 111, 97, 100, 32, 115, 116, 111, 114, 101, 32, 109, 111, 118, 101, 32, 110, 97, 114, 114, 111, 119, 32, 100, 114, 111, 112, 32, 115, 101, 97, 108, 32, 111, 112, 101, 110, 32, 97, 115, 107, 32, 99, 97, 108, 108, 32, 98, 97, 99, 107, 32, 104, 101, 114, 101, 32, 99, 108, 101, 97, 114, 32, 116, 101, 108, 108]⟩] (w.alloc (.cells #[.string ⟨#[]⟩, .bool false, .bool false, .int .u8 0] 44)) _ from fields_any _ (hl.below ((Below.refl _ _).alloc (Nat.le_refl _) _)))
  go_enter Tryd.func22, Tryd.ntmps22
  go_wp2_with fail
  refine HF.out.mono ?_
  rintro e w1 ⟨rfl, rfl⟩
  have hx : wordsB[4]? = some ⟨#[115, 117, 98]⟩ := rfl
  go_wp2
  refine bodyPost_ret (v := .tuple #[.agg #[.string ⟨#[115, 117, 98]⟩, .bool true, .bool true, .int .u8 114], .bool true]) (by simp [results, Tryd.results22, go_sem]) rfl ⟨rfl, ?_⟩
  exact (((Below.refl _ _).alloc (Nat.le_refl _) _).alloc (by simp) _).alloc (by simp; omega) _

set_option maxHeartbeats 2000000 in
set_option maxRecDepth 100000 in
theorem shape_5 (w : World) (hl : LaidW w) :
    Calls Tryd.prog 22 #[.int .i64 5] w fun e w' => e = .returned (.tuple #[.agg #[.string ⟨#[109, 117, 108]⟩, .bool true, .bool true, .int .u8 114], .bool true]) ∧ Below w.heap.size w w' := by
  have HF := Lib.hid (show Calls Tryd.prog 54 #[.string ⟨#[104, 97, 108, 116, 32, 115, 101, 116, 32, 99, 111, 112, 121, 32, 97, 100, 100, 32, 115, 117, 98, 32, 109, 117, 108, 32, 100, 105, 118, 32, 108, 101, 115, 115, 32, 106, 117, 109, 112, 32, 105, 102, 32, 108, 111, 97, 100, 32, 115, 116, 111, 114, 101, 32, 109, 111, 118, 101, 32, 110, 97, 114, 114, 111, 119, 32, 100, 114, 111, 112, 32, 115, 101, 97, 108, 32, 111, 112, 101, 110, 32, 97, 115, 107, 32, 99, 97, 108, 108, 32, 98, 97, 99, 107, 32, 104, 101, 114, 101, 32, 99, 108, 101, 97, 114, 32, 116, 101, 108, 108]⟩] (w.alloc (.cells #[.string ⟨#[]⟩, .bool false, .bool false, .int .u8 0] 44)) _ from fields_any _ (hl.below ((Below.refl _ _).alloc (Nat.le_refl _) _)))
  go_enter Tryd.func22, Tryd.ntmps22
  go_wp2_with fail
  refine HF.out.mono ?_
  rintro e w1 ⟨rfl, rfl⟩
  have hx : wordsB[5]? = some ⟨#[109, 117, 108]⟩ := rfl
  go_wp2
  refine bodyPost_ret (v := .tuple #[.agg #[.string ⟨#[109, 117, 108]⟩, .bool true, .bool true, .int .u8 114], .bool true]) (by simp [results, Tryd.results22, go_sem]) rfl ⟨rfl, ?_⟩
  exact (((Below.refl _ _).alloc (Nat.le_refl _) _).alloc (by simp) _).alloc (by simp; omega) _

set_option maxHeartbeats 2000000 in
set_option maxRecDepth 100000 in
theorem shape_6 (w : World) (hl : LaidW w) :
    Calls Tryd.prog 22 #[.int .i64 6] w fun e w' => e = .returned (.tuple #[.agg #[.string ⟨#[100, 105, 118]⟩, .bool true, .bool true, .int .u8 114], .bool true]) ∧ Below w.heap.size w w' := by
  have HF := Lib.hid (show Calls Tryd.prog 54 #[.string ⟨#[104, 97, 108, 116, 32, 115, 101, 116, 32, 99, 111, 112, 121, 32, 97, 100, 100, 32, 115, 117, 98, 32, 109, 117, 108, 32, 100, 105, 118, 32, 108, 101, 115, 115, 32, 106, 117, 109, 112, 32, 105, 102, 32, 108, 111, 97, 100, 32, 115, 116, 111, 114, 101, 32, 109, 111, 118, 101, 32, 110, 97, 114, 114, 111, 119, 32, 100, 114, 111, 112, 32, 115, 101, 97, 108, 32, 111, 112, 101, 110, 32, 97, 115, 107, 32, 99, 97, 108, 108, 32, 98, 97, 99, 107, 32, 104, 101, 114, 101, 32, 99, 108, 101, 97, 114, 32, 116, 101, 108, 108]⟩] (w.alloc (.cells #[.string ⟨#[]⟩, .bool false, .bool false, .int .u8 0] 44)) _ from fields_any _ (hl.below ((Below.refl _ _).alloc (Nat.le_refl _) _)))
  go_enter Tryd.func22, Tryd.ntmps22
  go_wp2_with fail
  refine HF.out.mono ?_
  rintro e w1 ⟨rfl, rfl⟩
  have hx : wordsB[6]? = some ⟨#[100, 105, 118]⟩ := rfl
  go_wp2
  refine bodyPost_ret (v := .tuple #[.agg #[.string ⟨#[100, 105, 118]⟩, .bool true, .bool true, .int .u8 114], .bool true]) (by simp [results, Tryd.results22, go_sem]) rfl ⟨rfl, ?_⟩
  exact (((Below.refl _ _).alloc (Nat.le_refl _) _).alloc (by simp) _).alloc (by simp; omega) _

set_option maxHeartbeats 2000000 in
set_option maxRecDepth 100000 in
theorem shape_7 (w : World) (hl : LaidW w) :
    Calls Tryd.prog 22 #[.int .i64 7] w fun e w' => e = .returned (.tuple #[.agg #[.string ⟨#[108, 101, 115, 115]⟩, .bool true, .bool true, .int .u8 114], .bool true]) ∧ Below w.heap.size w w' := by
  have HF := Lib.hid (show Calls Tryd.prog 54 #[.string ⟨#[104, 97, 108, 116, 32, 115, 101, 116, 32, 99, 111, 112, 121, 32, 97, 100, 100, 32, 115, 117, 98, 32, 109, 117, 108, 32, 100, 105, 118, 32, 108, 101, 115, 115, 32, 106, 117, 109, 112, 32, 105, 102, 32, 108, 111, 97, 100, 32, 115, 116, 111, 114, 101, 32, 109, 111, 118, 101, 32, 110, 97, 114, 114, 111, 119, 32, 100, 114, 111, 112, 32, 115, 101, 97, 108, 32, 111, 112, 101, 110, 32, 97, 115, 107, 32, 99, 97, 108, 108, 32, 98, 97, 99, 107, 32, 104, 101, 114, 101, 32, 99, 108, 101, 97, 114, 32, 116, 101, 108, 108]⟩] (w.alloc (.cells #[.string ⟨#[]⟩, .bool false, .bool false, .int .u8 0] 44)) _ from fields_any _ (hl.below ((Below.refl _ _).alloc (Nat.le_refl _) _)))
  go_enter Tryd.func22, Tryd.ntmps22
  go_wp2_with fail
  refine HF.out.mono ?_
  rintro e w1 ⟨rfl, rfl⟩
  have hx : wordsB[7]? = some ⟨#[108, 101, 115, 115]⟩ := rfl
  go_wp2
  refine bodyPost_ret (v := .tuple #[.agg #[.string ⟨#[108, 101, 115, 115]⟩, .bool true, .bool true, .int .u8 114], .bool true]) (by simp [results, Tryd.results22, go_sem]) rfl ⟨rfl, ?_⟩
  exact (((Below.refl _ _).alloc (Nat.le_refl _) _).alloc (by simp) _).alloc (by simp; omega) _

set_option maxHeartbeats 2000000 in
set_option maxRecDepth 100000 in
theorem shape_8 (w : World) (hl : LaidW w) :
    Calls Tryd.prog 22 #[.int .i64 8] w fun e w' => e = .returned (.tuple #[.agg #[.string ⟨#[106, 117, 109, 112]⟩, .bool false, .bool false, .int .u8 110], .bool true]) ∧ Below w.heap.size w w' := by
  have HF := Lib.hid (show Calls Tryd.prog 54 #[.string ⟨#[104, 97, 108, 116, 32, 115, 101, 116, 32, 99, 111, 112, 121, 32, 97, 100, 100, 32, 115, 117, 98, 32, 109, 117, 108, 32, 100, 105, 118, 32, 108, 101, 115, 115, 32, 106, 117, 109, 112, 32, 105, 102, 32, 108, 111, 97, 100, 32, 115, 116, 111, 114, 101, 32, 109, 111, 118, 101, 32, 110, 97, 114, 114, 111, 119, 32, 100, 114, 111, 112, 32, 115, 101, 97, 108, 32, 111, 112, 101, 110, 32, 97, 115, 107, 32, 99, 97, 108, 108, 32, 98, 97, 99, 107, 32, 104, 101, 114, 101, 32, 99, 108, 101, 97, 114, 32, 116, 101, 108, 108]⟩] (w.alloc (.cells #[.string ⟨#[]⟩, .bool false, .bool false, .int .u8 0] 44)) _ from fields_any _ (hl.below ((Below.refl _ _).alloc (Nat.le_refl _) _)))
  go_enter Tryd.func22, Tryd.ntmps22
  go_wp2_with fail
  refine HF.out.mono ?_
  rintro e w1 ⟨rfl, rfl⟩
  have hx : wordsB[8]? = some ⟨#[106, 117, 109, 112]⟩ := rfl
  go_wp2
  refine bodyPost_ret (v := .tuple #[.agg #[.string ⟨#[106, 117, 109, 112]⟩, .bool false, .bool false, .int .u8 110], .bool true]) (by simp [results, Tryd.results22, go_sem]) rfl ⟨rfl, ?_⟩
  exact (((Below.refl _ _).alloc (Nat.le_refl _) _).alloc (by simp) _).alloc (by simp; omega) _

set_option maxHeartbeats 2000000 in
set_option maxRecDepth 100000 in
theorem shape_9 (w : World) (hl : LaidW w) :
    Calls Tryd.prog 22 #[.int .i64 9] w fun e w' => e = .returned (.tuple #[.agg #[.string ⟨#[105, 102]⟩, .bool true, .bool false, .int .u8 110], .bool true]) ∧ Below w.heap.size w w' := by
  have HF := Lib.hid (show Calls Tryd.prog 54 #[.string ⟨#[104, 97, 108, 116, 32, 115, 101, 116, 32, 99, 111, 112, 121, 32, 97, 100, 100, 32, 115, 117, 98, 32, 109, 117, 108, 32, 100, 105, 118, 32, 108, 101, 115, 115, 32, 106, 117, 109, 112, 32, 105, 102, 32, 108, 111, 97, 100, 32, 115, 116, 111, 114, 101, 32, 109, 111, 118, 101, 32, 110, 97, 114, 114, 111, 119, 32, 100, 114, 111, 112, 32, 115, 101, 97, 108, 32, 111, 112, 101, 110, 32, 97, 115, 107, 32, 99, 97, 108, 108, 32, 98, 97, 99, 107, 32, 104, 101, 114, 101, 32, 99, 108, 101, 97, 114, 32, 116, 101, 108, 108]⟩] (w.alloc (.cells #[.string ⟨#[]⟩, .bool false, .bool false, .int .u8 0] 44)) _ from fields_any _ (hl.below ((Below.refl _ _).alloc (Nat.le_refl _) _)))
  go_enter Tryd.func22, Tryd.ntmps22
  go_wp2_with fail
  refine HF.out.mono ?_
  rintro e w1 ⟨rfl, rfl⟩
  have hx : wordsB[9]? = some ⟨#[105, 102]⟩ := rfl
  go_wp2
  refine bodyPost_ret (v := .tuple #[.agg #[.string ⟨#[105, 102]⟩, .bool true, .bool false, .int .u8 110], .bool true]) (by simp [results, Tryd.results22, go_sem]) rfl ⟨rfl, ?_⟩
  exact (((Below.refl _ _).alloc (Nat.le_refl _) _).alloc (by simp) _).alloc (by simp; omega) _

set_option maxHeartbeats 2000000 in
set_option maxRecDepth 100000 in
theorem shape_10 (w : World) (hl : LaidW w) :
    Calls Tryd.prog 22 #[.int .i64 10] w fun e w' => e = .returned (.tuple #[.agg #[.string ⟨#[108, 111, 97, 100]⟩, .bool true, .bool true, .int .u8 110], .bool true]) ∧ Below w.heap.size w w' := by
  have HF := Lib.hid (show Calls Tryd.prog 54 #[.string ⟨#[104, 97, 108, 116, 32, 115, 101, 116, 32, 99, 111, 112, 121, 32, 97, 100, 100, 32, 115, 117, 98, 32, 109, 117, 108, 32, 100, 105, 118, 32, 108, 101, 115, 115, 32, 106, 117, 109, 112, 32, 105, 102, 32, 108, 111, 97, 100, 32, 115, 116, 111, 114, 101, 32, 109, 111, 118, 101, 32, 110, 97, 114, 114, 111, 119, 32, 100, 114, 111, 112, 32, 115, 101, 97, 108, 32, 111, 112, 101, 110, 32, 97, 115, 107, 32, 99, 97, 108, 108, 32, 98, 97, 99, 107, 32, 104, 101, 114, 101, 32, 99, 108, 101, 97, 114, 32, 116, 101, 108, 108]⟩] (w.alloc (.cells #[.string ⟨#[]⟩, .bool false, .bool false, .int .u8 0] 44)) _ from fields_any _ (hl.below ((Below.refl _ _).alloc (Nat.le_refl _) _)))
  go_enter Tryd.func22, Tryd.ntmps22
  go_wp2_with fail
  refine HF.out.mono ?_
  rintro e w1 ⟨rfl, rfl⟩
  have hx : wordsB[10]? = some ⟨#[108, 111, 97, 100]⟩ := rfl
  go_wp2
  refine bodyPost_ret (v := .tuple #[.agg #[.string ⟨#[108, 111, 97, 100]⟩, .bool true, .bool true, .int .u8 110], .bool true]) (by simp [results, Tryd.results22, go_sem]) rfl ⟨rfl, ?_⟩
  exact (((Below.refl _ _).alloc (Nat.le_refl _) _).alloc (by simp) _).alloc (by simp; omega) _

set_option maxHeartbeats 2000000 in
set_option maxRecDepth 100000 in
theorem shape_11 (w : World) (hl : LaidW w) :
    Calls Tryd.prog 22 #[.int .i64 11] w fun e w' => e = .returned (.tuple #[.agg #[.string ⟨#[115, 116, 111, 114, 101]⟩, .bool true, .bool true, .int .u8 110], .bool true]) ∧ Below w.heap.size w w' := by
  have HF := Lib.hid (show Calls Tryd.prog 54 #[.string ⟨#[104, 97, 108, 116, 32, 115, 101, 116, 32, 99, 111, 112, 121, 32, 97, 100, 100, 32, 115, 117, 98, 32, 109, 117, 108, 32, 100, 105, 118, 32, 108, 101, 115, 115, 32, 106, 117, 109, 112, 32, 105, 102, 32, 108, 111, 97, 100, 32, 115, 116, 111, 114, 101, 32, 109, 111, 118, 101, 32, 110, 97, 114, 114, 111, 119, 32, 100, 114, 111, 112, 32, 115, 101, 97, 108, 32, 111, 112, 101, 110, 32, 97, 115, 107, 32, 99, 97, 108, 108, 32, 98, 97, 99, 107, 32, 104, 101, 114, 101, 32, 99, 108, 101, 97, 114, 32, 116, 101, 108, 108]⟩] (w.alloc (.cells #[.string ⟨#[]⟩, .bool false, .bool false, .int .u8 0] 44)) _ from fields_any _ (hl.below ((Below.refl _ _).alloc (Nat.le_refl _) _)))
  go_enter Tryd.func22, Tryd.ntmps22
  go_wp2_with fail
  refine HF.out.mono ?_
  rintro e w1 ⟨rfl, rfl⟩
  have hx : wordsB[11]? = some ⟨#[115, 116, 111, 114, 101]⟩ := rfl
  go_wp2
  refine bodyPost_ret (v := .tuple #[.agg #[.string ⟨#[115, 116, 111, 114, 101]⟩, .bool true, .bool true, .int .u8 110], .bool true]) (by simp [results, Tryd.results22, go_sem]) rfl ⟨rfl, ?_⟩
  exact (((Below.refl _ _).alloc (Nat.le_refl _) _).alloc (by simp) _).alloc (by simp; omega) _

set_option maxHeartbeats 2000000 in
set_option maxRecDepth 100000 in
theorem shape_12 (w : World) (hl : LaidW w) :
    Calls Tryd.prog 22 #[.int .i64 12] w fun e w' => e = .returned (.tuple #[.agg #[.string ⟨#[109, 111, 118, 101]⟩, .bool true, .bool true, .int .u8 114], .bool true]) ∧ Below w.heap.size w w' := by
  have HF := Lib.hid (show Calls Tryd.prog 54 #[.string ⟨#[104, 97, 108, 116, 32, 115, 101, 116, 32, 99, 111, 112, 121, 32, 97, 100, 100, 32, 115, 117, 98, 32, 109, 117, 108, 32, 100, 105, 118, 32, 108, 101, 115, 115, 32, 106, 117, 109, 112, 32, 105, 102, 32, 108, 111, 97, 100, 32, 115, 116, 111, 114, 101, 32, 109, 111, 118, 101, 32, 110, 97, 114, 114, 111, 119, 32, 100, 114, 111, 112, 32, 115, 101, 97, 108, 32, 111, 112, 101, 110, 32, 97, 115, 107, 32, 99, 97, 108, 108, 32, 98, 97, 99, 107, 32, 104, 101, 114, 101, 32, 99, 108, 101, 97, 114, 32, 116, 101, 108, 108]⟩] (w.alloc (.cells #[.string ⟨#[]⟩, .bool false, .bool false, .int .u8 0] 44)) _ from fields_any _ (hl.below ((Below.refl _ _).alloc (Nat.le_refl _) _)))
  go_enter Tryd.func22, Tryd.ntmps22
  go_wp2_with fail
  refine HF.out.mono ?_
  rintro e w1 ⟨rfl, rfl⟩
  have hx : wordsB[12]? = some ⟨#[109, 111, 118, 101]⟩ := rfl
  go_wp2
  refine bodyPost_ret (v := .tuple #[.agg #[.string ⟨#[109, 111, 118, 101]⟩, .bool true, .bool true, .int .u8 114], .bool true]) (by simp [results, Tryd.results22, go_sem]) rfl ⟨rfl, ?_⟩
  exact (((Below.refl _ _).alloc (Nat.le_refl _) _).alloc (by simp) _).alloc (by simp; omega) _

set_option maxHeartbeats 2000000 in
set_option maxRecDepth 100000 in
theorem shape_13 (w : World) (hl : LaidW w) :
    Calls Tryd.prog 22 #[.int .i64 13] w fun e w' => e = .returned (.tuple #[.agg #[.string ⟨#[110, 97, 114, 114, 111, 119]⟩, .bool true, .bool true, .int .u8 114], .bool true]) ∧ Below w.heap.size w w' := by
  have HF := Lib.hid (show Calls Tryd.prog 54 #[.string ⟨#[104, 97, 108, 116, 32, 115, 101, 116, 32, 99, 111, 112, 121, 32, 97, 100, 100, 32, 115, 117, 98, 32, 109, 117, 108, 32, 100, 105, 118, 32, 108, 101, 115, 115, 32, 106, 117, 109, 112, 32, 105, 102, 32, 108, 111, 97, 100, 32, 115, 116, 111, 114, 101, 32, 109, 111, 118, 101, 32, 110, 97, 114, 114, 111, 119, 32, 100, 114, 111, 112, 32, 115, 101, 97, 108, 32, 111, 112, 101, 110, 32, 97, 115, 107, 32, 99, 97, 108, 108, 32, 98, 97, 99, 107, 32, 104, 101, 114, 101, 32, 99, 108, 101, 97, 114, 32, 116, 101, 108, 108]⟩] (w.alloc (.cells #[.string ⟨#[]⟩, .bool false, .bool false, .int .u8 0] 44)) _ from fields_any _ (hl.below ((Below.refl _ _).alloc (Nat.le_refl _) _)))
  go_enter Tryd.func22, Tryd.ntmps22
  go_wp2_with fail
  refine HF.out.mono ?_
  rintro e w1 ⟨rfl, rfl⟩
  have hx : wordsB[13]? = some ⟨#[110, 97, 114, 114, 111, 119]⟩ := rfl
  go_wp2
  refine bodyPost_ret (v := .tuple #[.agg #[.string ⟨#[110, 97, 114, 114, 111, 119]⟩, .bool true, .bool true, .int .u8 114], .bool true]) (by simp [results, Tryd.results22, go_sem]) rfl ⟨rfl, ?_⟩
  exact (((Below.refl _ _).alloc (Nat.le_refl _) _).alloc (by simp) _).alloc (by simp; omega) _

set_option maxHeartbeats 2000000 in
set_option maxRecDepth 100000 in
theorem shape_14 (w : World) (hl : LaidW w) :
    Calls Tryd.prog 22 #[.int .i64 14] w fun e w' => e = .returned (.tuple #[.agg #[.string ⟨#[100, 114, 111, 112]⟩, .bool true, .bool true, .int .u8 112], .bool true]) ∧ Below w.heap.size w w' := by
  have HF := Lib.hid (show Calls Tryd.prog 54 #[.string ⟨#[104, 97, 108, 116, 32, 115, 101, 116, 32, 99, 111, 112, 121, 32, 97, 100, 100, 32, 115, 117, 98, 32, 109, 117, 108, 32, 100, 105, 118, 32, 108, 101, 115, 115, 32, 106, 117, 109, 112, 32, 105, 102, 32, 108, 111, 97, 100, 32, 115, 116, 111, 114, 101, 32, 109, 111, 118, 101, 32, 110, 97, 114, 114, 111, 119, 32, 100, 114, 111, 112, 32, 115, 101, 97, 108, 32, 111, 112, 101, 110, 32, 97, 115, 107, 32, 99, 97, 108, 108, 32, 98, 97, 99, 107, 32, 104, 101, 114, 101, 32, 99, 108, 101, 97, 114, 32, 116, 101, 108, 108]⟩] (w.alloc (.cells #[.string ⟨#[]⟩, .bool false, .bool false, .int .u8 0] 44)) _ from fields_any _ (hl.below ((Below.refl _ _).alloc (Nat.le_refl _) _)))
  go_enter Tryd.func22, Tryd.ntmps22
  go_wp2_with fail
  refine HF.out.mono ?_
  rintro e w1 ⟨rfl, rfl⟩
  have hx : wordsB[14]? = some ⟨#[100, 114, 111, 112]⟩ := rfl
  go_wp2
  refine bodyPost_ret (v := .tuple #[.agg #[.string ⟨#[100, 114, 111, 112]⟩, .bool true, .bool true, .int .u8 112], .bool true]) (by simp [results, Tryd.results22, go_sem]) rfl ⟨rfl, ?_⟩
  exact (((Below.refl _ _).alloc (Nat.le_refl _) _).alloc (by simp) _).alloc (by simp; omega) _

set_option maxHeartbeats 2000000 in
set_option maxRecDepth 100000 in
theorem shape_15 (w : World) (hl : LaidW w) :
    Calls Tryd.prog 22 #[.int .i64 15] w fun e w' => e = .returned (.tuple #[.agg #[.string ⟨#[115, 101, 97, 108]⟩, .bool true, .bool true, .int .u8 114], .bool true]) ∧ Below w.heap.size w w' := by
  have HF := Lib.hid (show Calls Tryd.prog 54 #[.string ⟨#[104, 97, 108, 116, 32, 115, 101, 116, 32, 99, 111, 112, 121, 32, 97, 100, 100, 32, 115, 117, 98, 32, 109, 117, 108, 32, 100, 105, 118, 32, 108, 101, 115, 115, 32, 106, 117, 109, 112, 32, 105, 102, 32, 108, 111, 97, 100, 32, 115, 116, 111, 114, 101, 32, 109, 111, 118, 101, 32, 110, 97, 114, 114, 111, 119, 32, 100, 114, 111, 112, 32, 115, 101, 97, 108, 32, 111, 112, 101, 110, 32, 97, 115, 107, 32, 99, 97, 108, 108, 32, 98, 97, 99, 107, 32, 104, 101, 114, 101, 32, 99, 108, 101, 97, 114, 32, 116, 101, 108, 108]⟩] (w.alloc (.cells #[.string ⟨#[]⟩, .bool false, .bool false, .int .u8 0] 44)) _ from fields_any _ (hl.below ((Below.refl _ _).alloc (Nat.le_refl _) _)))
  go_enter Tryd.func22, Tryd.ntmps22
  go_wp2_with fail
  refine HF.out.mono ?_
  rintro e w1 ⟨rfl, rfl⟩
  have hx : wordsB[15]? = some ⟨#[115, 101, 97, 108]⟩ := rfl
  go_wp2
  refine bodyPost_ret (v := .tuple #[.agg #[.string ⟨#[115, 101, 97, 108]⟩, .bool true, .bool true, .int .u8 114], .bool true]) (by simp [results, Tryd.results22, go_sem]) rfl ⟨rfl, ?_⟩
  exact (((Below.refl _ _).alloc (Nat.le_refl _) _).alloc (by simp) _).alloc (by simp; omega) _

set_option maxHeartbeats 2000000 in
set_option maxRecDepth 100000 in
theorem shape_16 (w : World) (hl : LaidW w) :
    Calls Tryd.prog 22 #[.int .i64 16] w fun e w' => e = .returned (.tuple #[.agg #[.string ⟨#[111, 112, 101, 110]⟩, .bool true, .bool true, .int .u8 114], .bool true]) ∧ Below w.heap.size w w' := by
  have HF := Lib.hid (show Calls Tryd.prog 54 #[.string ⟨#[104, 97, 108, 116, 32, 115, 101, 116, 32, 99, 111, 112, 121, 32, 97, 100, 100, 32, 115, 117, 98, 32, 109, 117, 108, 32, 100, 105, 118, 32, 108, 101, 115, 115, 32, 106, 117, 109, 112, 32, 105, 102, 32, 108, 111, 97, 100, 32, 115, 116, 111, 114, 101, 32, 109, 111, 118, 101, 32, 110, 97, 114, 114, 111, 119, 32, 100, 114, 111, 112, 32, 115, 101, 97, 108, 32, 111, 112, 101, 110, 32, 97, 115, 107, 32, 99, 97, 108, 108, 32, 98, 97, 99, 107, 32, 104, 101, 114, 101, 32, 99, 108, 101, 97, 114, 32, 116, 101, 108, 108]⟩] (w.alloc (.cells #[.string ⟨#[]⟩, .bool false, .bool false, .int .u8 0] 44)) _ from fields_any _ (hl.below ((Below.refl _ _).alloc (Nat.le_refl _) _)))
  go_enter Tryd.func22, Tryd.ntmps22
  go_wp2_with fail
  refine HF.out.mono ?_
  rintro e w1 ⟨rfl, rfl⟩
  have hx : wordsB[16]? = some ⟨#[111, 112, 101, 110]⟩ := rfl
  go_wp2
  refine bodyPost_ret (v := .tuple #[.agg #[.string ⟨#[111, 112, 101, 110]⟩, .bool true, .bool true, .int .u8 114], .bool true]) (by simp [results, Tryd.results22, go_sem]) rfl ⟨rfl, ?_⟩
  exact (((Below.refl _ _).alloc (Nat.le_refl _) _).alloc (by simp) _).alloc (by simp; omega) _

set_option maxHeartbeats 2000000 in
set_option maxRecDepth 100000 in
theorem shape_17 (w : World) (hl : LaidW w) :
    Calls Tryd.prog 22 #[.int .i64 17] w fun e w' => e = .returned (.tuple #[.agg #[.string ⟨#[97, 115, 107]⟩, .bool true, .bool true, .int .u8 113], .bool true]) ∧ Below w.heap.size w w' := by
  have HF := Lib.hid (show Calls Tryd.prog 54 #[.string ⟨#[104, 97, 108, 116, 32, 115, 101, 116, 32, 99, 111, 112, 121, 32, 97, 100, 100, 32, 115, 117, 98, 32, 109, 117, 108, 32, 100, 105, 118, 32, 108, 101, 115, 115, 32, 106, 117, 109, 112, 32, 105, 102, 32, 108, 111, 97, 100, 32, 115, 116, 111, 114, 101, 32, 109, 111, 118, 101, 32, 110, 97, 114, 114, 111, 119, 32, 100, 114, 111, 112, 32, 115, 101, 97, 108, 32, 111, 112, 101, 110, 32, 97, 115, 107, 32, 99, 97, 108, 108, 32, 98, 97, 99, 107, 32, 104, 101, 114, 101, 32, 99, 108, 101, 97, 114, 32, 116, 101, 108, 108]⟩] (w.alloc (.cells #[.string ⟨#[]⟩, .bool false, .bool false, .int .u8 0] 44)) _ from fields_any _ (hl.below ((Below.refl _ _).alloc (Nat.le_refl _) _)))
  go_enter Tryd.func22, Tryd.ntmps22
  go_wp2_with fail
  refine HF.out.mono ?_
  rintro e w1 ⟨rfl, rfl⟩
  have hx : wordsB[17]? = some ⟨#[97, 115, 107]⟩ := rfl
  go_wp2
  refine bodyPost_ret (v := .tuple #[.agg #[.string ⟨#[97, 115, 107]⟩, .bool true, .bool true, .int .u8 113], .bool true]) (by simp [results, Tryd.results22, go_sem]) rfl ⟨rfl, ?_⟩
  exact (((Below.refl _ _).alloc (Nat.le_refl _) _).alloc (by simp) _).alloc (by simp; omega) _

set_option maxHeartbeats 2000000 in
set_option maxRecDepth 100000 in
theorem shape_18 (w : World) (hl : LaidW w) :
    Calls Tryd.prog 22 #[.int .i64 18] w fun e w' => e = .returned (.tuple #[.agg #[.string ⟨#[99, 97, 108, 108]⟩, .bool true, .bool true, .int .u8 0], .bool true]) ∧ Below w.heap.size w w' := by
  have HF := Lib.hid (show Calls Tryd.prog 54 #[.string ⟨#[104, 97, 108, 116, 32, 115, 101, 116, 32, 99, 111, 112, 121, 32, 97, 100, 100, 32, 115, 117, 98, 32, 109, 117, 108, 32, 100, 105, 118, 32, 108, 101, 115, 115, 32, 106, 117, 109, 112, 32, 105, 102, 32, 108, 111, 97, 100, 32, 115, 116, 111, 114, 101, 32, 109, 111, 118, 101, 32, 110, 97, 114, 114, 111, 119, 32, 100, 114, 111, 112, 32, 115, 101, 97, 108, 32, 111, 112, 101, 110, 32, 97, 115, 107, 32, 99, 97, 108, 108, 32, 98, 97, 99, 107, 32, 104, 101, 114, 101, 32, 99, 108, 101, 97, 114, 32, 116, 101, 108, 108]⟩] (w.alloc (.cells #[.string ⟨#[]⟩, .bool false, .bool false, .int .u8 0] 44)) _ from fields_any _ (hl.below ((Below.refl _ _).alloc (Nat.le_refl _) _)))
  go_enter Tryd.func22, Tryd.ntmps22
  go_wp2_with fail
  refine HF.out.mono ?_
  rintro e w1 ⟨rfl, rfl⟩
  have hx : wordsB[18]? = some ⟨#[99, 97, 108, 108]⟩ := rfl
  go_wp2
  refine bodyPost_ret (v := .tuple #[.agg #[.string ⟨#[99, 97, 108, 108]⟩, .bool true, .bool true, .int .u8 0], .bool true]) (by simp [results, Tryd.results22, go_sem]) rfl ⟨rfl, ?_⟩
  exact (((Below.refl _ _).alloc (Nat.le_refl _) _).alloc (by simp) _).alloc (by simp; omega) _

set_option maxHeartbeats 2000000 in
set_option maxRecDepth 100000 in
theorem shape_19 (w : World) (hl : LaidW w) :
    Calls Tryd.prog 22 #[.int .i64 19] w fun e w' => e = .returned (.tuple #[.agg #[.string ⟨#[98, 97, 99, 107]⟩, .bool false, .bool false, .int .u8 0], .bool true]) ∧ Below w.heap.size w w' := by
  have HF := Lib.hid (show Calls Tryd.prog 54 #[.string ⟨#[104, 97, 108, 116, 32, 115, 101, 116, 32, 99, 111, 112, 121, 32, 97, 100, 100, 32, 115, 117, 98, 32, 109, 117, 108, 32, 100, 105, 118, 32, 108, 101, 115, 115, 32, 106, 117, 109, 112, 32, 105, 102, 32, 108, 111, 97, 100, 32, 115, 116, 111, 114, 101, 32, 109, 111, 118, 101, 32, 110, 97, 114, 114, 111, 119, 32, 100, 114, 111, 112, 32, 115, 101, 97, 108, 32, 111, 112, 101, 110, 32, 97, 115, 107, 32, 99, 97, 108, 108, 32, 98, 97, 99, 107, 32, 104, 101, 114, 101, 32, 99, 108, 101, 97, 114, 32, 116, 101, 108, 108]⟩] (w.alloc (.cells #[.string ⟨#[]⟩, .bool false, .bool false, .int .u8 0] 44)) _ from fields_any _ (hl.below ((Below.refl _ _).alloc (Nat.le_refl _) _)))
  go_enter Tryd.func22, Tryd.ntmps22
  go_wp2_with fail
  refine HF.out.mono ?_
  rintro e w1 ⟨rfl, rfl⟩
  have hx : wordsB[19]? = some ⟨#[98, 97, 99, 107]⟩ := rfl
  go_wp2
  refine bodyPost_ret (v := .tuple #[.agg #[.string ⟨#[98, 97, 99, 107]⟩, .bool false, .bool false, .int .u8 0], .bool true]) (by simp [results, Tryd.results22, go_sem]) rfl ⟨rfl, ?_⟩
  exact (((Below.refl _ _).alloc (Nat.le_refl _) _).alloc (by simp) _).alloc (by simp; omega) _

set_option maxHeartbeats 2000000 in
set_option maxRecDepth 100000 in
theorem shape_20 (w : World) (hl : LaidW w) :
    Calls Tryd.prog 22 #[.int .i64 20] w fun e w' => e = .returned (.tuple #[.agg #[.string ⟨#[104, 101, 114, 101]⟩, .bool true, .bool false, .int .u8 0], .bool true]) ∧ Below w.heap.size w w' := by
  have HF := Lib.hid (show Calls Tryd.prog 54 #[.string ⟨#[104, 97, 108, 116, 32, 115, 101, 116, 32, 99, 111, 112, 121, 32, 97, 100, 100, 32, 115, 117, 98, 32, 109, 117, 108, 32, 100, 105, 118, 32, 108, 101, 115, 115, 32, 106, 117, 109, 112, 32, 105, 102, 32, 108, 111, 97, 100, 32, 115, 116, 111, 114, 101, 32, 109, 111, 118, 101, 32, 110, 97, 114, 114, 111, 119, 32, 100, 114, 111, 112, 32, 115, 101, 97, 108, 32, 111, 112, 101, 110, 32, 97, 115, 107, 32, 99, 97, 108, 108, 32, 98, 97, 99, 107, 32, 104, 101, 114, 101, 32, 99, 108, 101, 97, 114, 32, 116, 101, 108, 108]⟩] (w.alloc (.cells #[.string ⟨#[]⟩, .bool false, .bool false, .int .u8 0] 44)) _ from fields_any _ (hl.below ((Below.refl _ _).alloc (Nat.le_refl _) _)))
  go_enter Tryd.func22, Tryd.ntmps22
  go_wp2_with fail
  refine HF.out.mono ?_
  rintro e w1 ⟨rfl, rfl⟩
  have hx : wordsB[20]? = some ⟨#[104, 101, 114, 101]⟩ := rfl
  go_wp2
  refine bodyPost_ret (v := .tuple #[.agg #[.string ⟨#[104, 101, 114, 101]⟩, .bool true, .bool false, .int .u8 0], .bool true]) (by simp [results, Tryd.results22, go_sem]) rfl ⟨rfl, ?_⟩
  exact (((Below.refl _ _).alloc (Nat.le_refl _) _).alloc (by simp) _).alloc (by simp; omega) _

set_option maxHeartbeats 2000000 in
set_option maxRecDepth 100000 in
theorem shape_21 (w : World) (hl : LaidW w) :
    Calls Tryd.prog 22 #[.int .i64 21] w fun e w' => e = .returned (.tuple #[.agg #[.string ⟨#[99, 108, 101, 97, 114]⟩, .bool false, .bool false, .int .u8 109], .bool true]) ∧ Below w.heap.size w w' := by
  have HF := Lib.hid (show Calls Tryd.prog 54 #[.string ⟨#[104, 97, 108, 116, 32, 115, 101, 116, 32, 99, 111, 112, 121, 32, 97, 100, 100, 32, 115, 117, 98, 32, 109, 117, 108, 32, 100, 105, 118, 32, 108, 101, 115, 115, 32, 106, 117, 109, 112, 32, 105, 102, 32, 108, 111, 97, 100, 32, 115, 116, 111, 114, 101, 32, 109, 111, 118, 101, 32, 110, 97, 114, 114, 111, 119, 32, 100, 114, 111, 112, 32, 115, 101, 97, 108, 32, 111, 112, 101, 110, 32, 97, 115, 107, 32, 99, 97, 108, 108, 32, 98, 97, 99, 107, 32, 104, 101, 114, 101, 32, 99, 108, 101, 97, 114, 32, 116, 101, 108, 108]⟩] (w.alloc (.cells #[.string ⟨#[]⟩, .bool false, .bool false, .int .u8 0] 44)) _ from fields_any _ (hl.below ((Below.refl _ _).alloc (Nat.le_refl _) _)))
  go_enter Tryd.func22, Tryd.ntmps22
  go_wp2_with fail
  refine HF.out.mono ?_
  rintro e w1 ⟨rfl, rfl⟩
  have hx : wordsB[21]? = some ⟨#[99, 108, 101, 97, 114]⟩ := rfl
  go_wp2
  refine bodyPost_ret (v := .tuple #[.agg #[.string ⟨#[99, 108, 101, 97, 114]⟩, .bool false, .bool false, .int .u8 109], .bool true]) (by simp [results, Tryd.results22, go_sem]) rfl ⟨rfl, ?_⟩
  exact (((Below.refl _ _).alloc (Nat.le_refl _) _).alloc (by simp) _).alloc (by simp; omega) _

set_option maxHeartbeats 2000000 in
set_option maxRecDepth 100000 in
theorem shape_22 (w : World) (hl : LaidW w) :
    Calls Tryd.prog 22 #[.int .i64 22] w fun e w' => e = .returned (.tuple #[.agg #[.string ⟨#[116, 101, 108, 108]⟩, .bool true, .bool false, .int .u8 0], .bool true]) ∧ Below w.heap.size w w' := by
  have HF := Lib.hid (show Calls Tryd.prog 54 #[.string ⟨#[104, 97, 108, 116, 32, 115, 101, 116, 32, 99, 111, 112, 121, 32, 97, 100, 100, 32, 115, 117, 98, 32, 109, 117, 108, 32, 100, 105, 118, 32, 108, 101, 115, 115, 32, 106, 117, 109, 112, 32, 105, 102, 32, 108, 111, 97, 100, 32, 115, 116, 111, 114, 101, 32, 109, 111, 118, 101, 32, 110, 97, 114, 114, 111, 119, 32, 100, 114, 111, 112, 32, 115, 101, 97, 108, 32, 111, 112, 101, 110, 32, 97, 115, 107, 32, 99, 97, 108, 108, 32, 98, 97, 99, 107, 32, 104, 101, 114, 101, 32, 99, 108, 101, 97, 114, 32, 116, 101, 108, 108]⟩] (w.alloc (.cells #[.string ⟨#[]⟩, .bool false, .bool false, .int .u8 0] 44)) _ from fields_any _ (hl.below ((Below.refl _ _).alloc (Nat.le_refl _) _)))
  go_enter Tryd.func22, Tryd.ntmps22
  go_wp2_with fail
  refine HF.out.mono ?_
  rintro e w1 ⟨rfl, rfl⟩
  have hx : wordsB[22]? = some ⟨#[116, 101, 108, 108]⟩ := rfl
  go_wp2
  refine bodyPost_ret (v := .tuple #[.agg #[.string ⟨#[116, 101, 108, 108]⟩, .bool true, .bool false, .int .u8 0], .bool true]) (by simp [results, Tryd.results22, go_sem]) rfl ⟨rfl, ?_⟩
  exact (((Below.refl _ _).alloc (Nat.le_refl _) _).alloc (by simp) _).alloc (by simp; omega) _

set_option maxHeartbeats 2000000 in
set_option maxRecDepth 100000 in
theorem shape_no (op : Int) (h : op < 0 ∨ 23 ≤ op) (w : World) (hl : LaidW w) :
    Calls Tryd.prog 22 #[.int .i64 op] w fun e w' => e = .returned (.tuple #[.agg #[.string ⟨#[]⟩, .bool false, .bool false, .int .u8 0], .bool false]) ∧ Below w.heap.size w w' := by
  have HF := Lib.hid (show Calls Tryd.prog 54 #[.string ⟨#[104, 97, 108, 116, 32, 115, 101, 116, 32, 99, 111, 112, 121, 32, 97, 100, 100, 32, 115, 117, 98, 32, 109, 117, 108, 32, 100, 105, 118, 32, 108, 101, 115, 115, 32, 106, 117, 109, 112, 32, 105, 102, 32, 108, 111, 97, 100, 32, 115, 116, 111, 114, 101, 32, 109, 111, 118, 101, 32, 110, 97, 114, 114, 111, 119, 32, 100, 114, 111, 112, 32, 115, 101, 97, 108, 32, 111, 112, 101, 110, 32, 97, 115, 107, 32, 99, 97, 108, 108, 32, 98, 97, 99, 107, 32, 104, 101, 114, 101, 32, 99, 108, 101, 97, 114, 32, 116, 101, 108, 108]⟩] (w.alloc (.cells #[.string ⟨#[]⟩, .bool false, .bool false, .int .u8 0] 44)) _ from fields_any _ (hl.below ((Below.refl _ _).alloc (Nat.le_refl _) _)))
  by_cases hn : op < 0
  · clear h
    go_enter Tryd.func22, Tryd.ntmps22
    go_wp2_with fail
    refine HF.out.mono ?_
    rintro e w1 ⟨rfl, rfl⟩
    go_wp2
    refine bodyPost_ret (v := .tuple #[.agg #[.string ⟨#[]⟩, .bool false, .bool false, .int .u8 0], .bool false]) (by simp [results, Tryd.results22, go_sem]) rfl ⟨rfl, ?_⟩
    exact ((Below.refl _ _).alloc (Nat.le_refl _) _).alloc (by simp) _
  · have hp : 23 ≤ op := by omega
    clear h
    go_enter Tryd.func22, Tryd.ntmps22
    go_wp2_with fail
    refine HF.out.mono ?_
    rintro e w1 ⟨rfl, rfl⟩
    go_wp2
    refine bodyPost_ret (v := .tuple #[.agg #[.string ⟨#[]⟩, .bool false, .bool false, .int .u8 0], .bool false]) (by simp [results, Tryd.results22, go_sem]) rfl ⟨rfl, ?_⟩
    exact ((Below.refl _ _).alloc (Nat.le_refl _) _).alloc (by simp) _

/-- Of an Op: its word, whether it has A and B, and what C is. -/
structure Shape where
  word : ByteArray
  a : Bool
  b : Bool
  c : Nat
def shapeTab : List Shape := [⟨⟨#[104, 97, 108, 116]⟩, false, false, 0⟩, ⟨⟨#[115, 101, 116]⟩, true, false, 110⟩, ⟨⟨#[99, 111, 112, 121]⟩, true, true, 0⟩, ⟨⟨#[97, 100, 100]⟩, true, true, 114⟩, ⟨⟨#[115, 117, 98]⟩, true, true, 114⟩, ⟨⟨#[109, 117, 108]⟩, true, true, 114⟩, ⟨⟨#[100, 105, 118]⟩, true, true, 114⟩, ⟨⟨#[108, 101, 115, 115]⟩, true, true, 114⟩, ⟨⟨#[106, 117, 109, 112]⟩, false, false, 110⟩, ⟨⟨#[105, 102]⟩, true, false, 110⟩, ⟨⟨#[108, 111, 97, 100]⟩, true, true, 110⟩, ⟨⟨#[115, 116, 111, 114, 101]⟩, true, true, 110⟩, ⟨⟨#[109, 111, 118, 101]⟩, true, true, 114⟩, ⟨⟨#[110, 97, 114, 114, 111, 119]⟩, true, true, 114⟩, ⟨⟨#[100, 114, 111, 112]⟩, true, true, 112⟩, ⟨⟨#[115, 101, 97, 108]⟩, true, true, 114⟩, ⟨⟨#[111, 112, 101, 110]⟩, true, true, 114⟩, ⟨⟨#[97, 115, 107]⟩, true, true, 113⟩, ⟨⟨#[99, 97, 108, 108]⟩, true, true, 0⟩, ⟨⟨#[98, 97, 99, 107]⟩, false, false, 0⟩, ⟨⟨#[104, 101, 114, 101]⟩, true, false, 0⟩, ⟨⟨#[99, 108, 101, 97, 114]⟩, false, false, 109⟩, ⟨⟨#[116, 101, 108, 108]⟩, true, false, 0⟩]
def Shape.val (s : Shape) : Value := .agg #[.string s.word, .bool s.a, .bool s.b, .int .u8 s.c]
def noShape : Shape := ⟨⟨#[]⟩, false, false, 0⟩
/-- shapeOf. -/
def shapeOf (op : Int) : Option Shape := if 0 ≤ op then shapeTab[op.toNat]? else none
theorem shape_any (op : Int) (w : World) (hl : LaidW w) :
    Calls Tryd.prog 22 #[.int .i64 op] w fun e w' => e = .returned (.tuple #[((shapeOf op).getD noShape).val, .bool (shapeOf op).isSome]) ∧ Below w.heap.size w w' := by
  by_cases h : op < 0 ∨ 23 ≤ op
  · have e : shapeOf op = none := by
      unfold shapeOf
      split
      · exact List.getElem?_eq_none (by simp [shapeTab]; omega)
      · rfl
    rw [e]
    exact shape_no op h w hl
  · have hc : op = 0 ∨ op = 1 ∨ op = 2 ∨ op = 3 ∨ op = 4 ∨ op = 5 ∨ op = 6 ∨ op = 7 ∨ op = 8 ∨ op = 9 ∨ op = 10 ∨ op = 11 ∨ op = 12 ∨ op = 13 ∨ op = 14 ∨ op = 15 ∨ op = 16 ∨ op = 17 ∨ op = 18 ∨ op = 19 ∨ op = 20 ∨ op = 21 ∨ op = 22 := by omega
    rcases hc with rfl | rfl | rfl | rfl | rfl | rfl | rfl | rfl | rfl | rfl | rfl | rfl | rfl | rfl | rfl | rfl | rfl | rfl | rfl | rfl | rfl | rfl | rfl
    · exact shape_0 w hl
    · exact shape_1 w hl
    · exact shape_2 w hl
    · exact shape_3 w hl
    · exact shape_4 w hl
    · exact shape_5 w hl
    · exact shape_6 w hl
    · exact shape_7 w hl
    · exact shape_8 w hl
    · exact shape_9 w hl
    · exact shape_10 w hl
    · exact shape_11 w hl
    · exact shape_12 w hl
    · exact shape_13 w hl
    · exact shape_14 w hl
    · exact shape_15 w hl
    · exact shape_16 w hl
    · exact shape_17 w hl
    · exact shape_18 w hl
    · exact shape_19 w hl
    · exact shape_20 w hl
    · exact shape_21 w hl
    · exact shape_22 w hl
end Go.Proofs.YtljjdkjmciheeaaDoor.P
