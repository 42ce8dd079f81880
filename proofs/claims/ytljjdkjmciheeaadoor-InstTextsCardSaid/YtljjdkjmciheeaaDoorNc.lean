/- The closure 'add' of inst.Text; bounds, reg, Check. -/
import Derived.Test.YtljjdkjmciheeaaDoorNb
import Derived.Deep.RegionWith
import Derived.Deep.RegionLaw
namespace Go.Proofs.YtljjdkjmciheeaaDoor.P
open Go.RowKit Go.Lib

def addText (o : ByteArray) (n : Int) (has isReg : Bool) : ByteArray := if has then (if isReg then o ++ (⟨#[32, 114]⟩ ++ itoaB n) else o ++ (⟨#[32]⟩ ++ itoaB n)) else o
def AddPost (b : Nat) (o' : ByteArray) (w : World) (e : Ending) (w' : World) : Prop :=
  e = .returned (.tuple #[]) ∧ Below b w w' ∧ w'.cell? ⟨b, 0, none⟩ = some (.string o') ∧ w'.frozen? ⟨b, 0, none⟩ = false

set_option maxHeartbeats 2000000 in
set_option maxRecDepth 100000 in
theorem add_reg (n : Int) (h0 : -9223372036854775808 ≤ n) (h1 : n ≤ 9223372036854775807) (b : Nat) (o : ByteArray) (ho : o.size ≤ 1000) (w : World) (hb : b < w.heap.size) (hl : LaidW w) (hc : w.cell? ⟨b, 0, none⟩ = some (.string o)) (hf : w.frozen? ⟨b, 0, none⟩ = false) :
    Calls Tryd.prog 23 #[.int .i64 n, .bool true, .bool true, .pointer (some ⟨b, 0, none⟩)] w (AddPost b (addText o n true true) w) := by
  have HI := Lib.hid (itoa_any n h0 h1)
  have HL := Lib.hid hl
  have hz := itoaB_size n h0 h1
  clear hl
  go_enter Tryd.func23, Tryd.ntmps23
  go_wp2
  go_region_with (go_at_call 24; refine (HI.out _ ?hq).mono ?_; (case hq => exact ⟨HL.out.m, HL.out.sp, HL.out.pw⟩); rintro e w1 ⟨rfl, hb1⟩; have hc1 : w1.cell? ⟨b, 0, none⟩ = some (.string o) := (hb1.cell (p := ⟨b, 0, none⟩) hb).trans hc; have hf1 : w1.frozen? ⟨b, 0, none⟩ = false := (hb1.frozen (p := ⟨b, 0, none⟩) hb).trans hf; have HB1 := Lib.hid hb1; clear hb1)
  all_goals go_wp2
  all_goals go_end0
  all_goals exact ⟨rfl, (((Below.refl b w).drew).trans (HB1.out.mono (Nat.le_of_lt hb))).setCell (Nat.le_refl _) _, World.cell?_setCell_same _ _ _ hc1, by rw [World.frozen?_setCell]; exact hf1⟩

set_option maxHeartbeats 2000000 in
set_option maxRecDepth 100000 in
theorem add_plain (n : Int) (h0 : -9223372036854775808 ≤ n) (h1 : n ≤ 9223372036854775807) (b : Nat) (o : ByteArray) (ho : o.size ≤ 1000) (w : World) (hb : b < w.heap.size) (hl : LaidW w) (hc : w.cell? ⟨b, 0, none⟩ = some (.string o)) (hf : w.frozen? ⟨b, 0, none⟩ = false) :
    Calls Tryd.prog 23 #[.int .i64 n, .bool true, .bool false, .pointer (some ⟨b, 0, none⟩)] w (AddPost b (addText o n true false) w) := by
  have HI := Lib.hid (itoa_any n h0 h1)
  have HL := Lib.hid hl
  have hz := itoaB_size n h0 h1
  clear hl
  go_enter Tryd.func23, Tryd.ntmps23
  go_wp2
  go_region_with (go_at_call 24; refine (HI.out _ ?hq).mono ?_; (case hq => exact ⟨HL.out.m, HL.out.sp, HL.out.pw⟩); rintro e w1 ⟨rfl, hb1⟩; have hc1 : w1.cell? ⟨b, 0, none⟩ = some (.string o) := (hb1.cell (p := ⟨b, 0, none⟩) hb).trans hc; have hf1 : w1.frozen? ⟨b, 0, none⟩ = false := (hb1.frozen (p := ⟨b, 0, none⟩) hb).trans hf; have HB1 := Lib.hid hb1; clear hb1)
  all_goals go_wp2
  all_goals go_end0
  all_goals exact ⟨rfl, (((Below.refl b w).drew).trans (HB1.out.mono (Nat.le_of_lt hb))).setCell (Nat.le_refl _) _, World.cell?_setCell_same _ _ _ hc1, by rw [World.frozen?_setCell]; exact hf1⟩

set_option maxRecDepth 100000 in
theorem add_not (n : Int) (r : Bool) (b : Nat) (o : ByteArray) (w : World) (hc : w.cell? ⟨b, 0, none⟩ = some (.string o)) (hf : w.frozen? ⟨b, 0, none⟩ = false) :
    Calls Tryd.prog 23 #[.int .i64 n, .bool false, .bool r, .pointer (some ⟨b, 0, none⟩)] w (AddPost b (addText o n false r) w) := by
  cases r
  all_goals go_enter Tryd.func23, Tryd.ntmps23
  all_goals go_wp2
  all_goals go_end0
  all_goals exact ⟨rfl, Below.refl _ _, hc, hf⟩

theorem add_any (n : Int) (h0 : -9223372036854775808 ≤ n) (h1 : n ≤ 9223372036854775807) (has r : Bool) (b : Nat) (o : ByteArray) (ho : o.size ≤ 1000) (w : World) (hb : b < w.heap.size) (hl : LaidW w) (hc : w.cell? ⟨b, 0, none⟩ = some (.string o)) (hf : w.frozen? ⟨b, 0, none⟩ = false) :
    Calls Tryd.prog 23 #[.int .i64 n, .bool has, .bool r, .pointer (some ⟨b, 0, none⟩)] w (AddPost b (addText o n has r) w) := by
  cases has
  · exact add_not n r b o w hc hf
  · cases r
    · exact add_plain n h0 h1 b o ho w hb hl hc hf
    · exact add_reg n h0 h1 b o ho w hb hl hc hf

def regB (n : Int) (has : Bool) : Bool := if has then decide (0 ≤ n) && decide (n < 8) else decide (n = 0)
theorem reg_any (n : Int) (has : Bool) (w : World) : Calls Tryd.prog 53 #[.int .i64 n, .bool has] w fun e w' => e = .returned (.bool (regB n has)) ∧ w' = w := by
  cases has
  · by_cases h : n = 0
    · subst h
      go_enter Tryd.func53, Tryd.ntmps53
      go_wp2
      go_ret
      exact ⟨rfl, rfl⟩
    · have h2 : (n == 0) = false := by simpa using h
      go_enter Tryd.func53, Tryd.ntmps53
      go_wp2
      go_ret
      exact ⟨by simp [regB, h], rfl⟩
  · by_cases h : 0 ≤ n
    · by_cases h2 : n < 8
      · go_enter Tryd.func53, Tryd.ntmps53
        go_wp2
        go_ret
        exact ⟨by simp [regB, h, h2], rfl⟩
      · go_enter Tryd.func53, Tryd.ntmps53
        go_wp2
        go_ret
        exact ⟨by simp [regB, h, h2], rfl⟩
    · go_enter Tryd.func53, Tryd.ntmps53
      go_wp2
      go_ret
      exact ⟨by simp [regB]; omega, rfl⟩
def loC (c : Nat) : Int := if c = 110 then -2048 else 0
def hiC (c : Nat) : Int := if c = 110 then 2047 else if c = 114 then 7 else if c = 112 then 127 else if c = 113 then 5 else if c = 109 then 255 else 0
theorem bounds_any (c : Nat) (hc : c = 0 ∨ c = 110 ∨ c = 114 ∨ c = 112 ∨ c = 113 ∨ c = 109) (w : World) : Calls Tryd.prog 52 #[.int .u8 c] w fun e w' => e = .returned (.tuple #[.int .i64 (loC c), .int .i64 (hiC c)]) ∧ w' = w := by
  rcases hc with rfl | rfl | rfl | rfl | rfl | rfl
  all_goals go_enter Tryd.func52, Tryd.ntmps52
  all_goals go_wp2
  all_goals go_ret2
  all_goals exact ⟨rfl, rfl⟩

theorem shape_c (op : Int) : ((shapeOf op).getD noShape).c = 0 ∨ ((shapeOf op).getD noShape).c = 110 ∨ ((shapeOf op).getD noShape).c = 114 ∨ ((shapeOf op).getD noShape).c = 112 ∨ ((shapeOf op).getD noShape).c = 113 ∨ ((shapeOf op).getD noShape).c = 109 := by
  have h : ∀ s ∈ shapeTab, s.c = 0 ∨ s.c = 110 ∨ s.c = 114 ∨ s.c = 112 ∨ s.c = 113 ∨ s.c = 109 := by decide +kernel
  cases hs : shapeOf op with
  | none => left; rfl
  | some s =>
    refine h s ?_
    unfold shapeOf at hs
    split at hs
    · exact List.mem_of_getElem? hs
    · cases hs

/-- The error of Check. -/
def chkE (q : Bool) : Int := if q then 0 else 1
/-- Check. -/
def chk (op a b c : Int) : Bool := (shapeOf op).isSome && regB a ((shapeOf op).getD noShape).a && regB b ((shapeOf op).getD noShape).b && decide (loC ((shapeOf op).getD noShape).c ≤ c) && decide (c ≤ hiC ((shapeOf op).getD noShape).c)
set_option maxHeartbeats 4000000 in
set_option maxRecDepth 100000 in
theorem check_walk (op a b c : Int) (is sa sb : Bool) (wd : ByteArray) (sc : Nat) (lo hi : Int) (ra rb : Bool) (w : World)
    (CS : Hid (Calls Tryd.prog 22 #[.int .i64 op] (w.alloc (.cells #[.int .i64 op, .int .i64 a, .int .i64 b, .int .i64 c] 29)) fun e w' => e = .returned (.tuple #[.agg #[.string wd, .bool sa, .bool sb, .int .u8 sc], .bool is]) ∧ Below (w.alloc (.cells #[.int .i64 op, .int .i64 a, .int .i64 b, .int .i64 c] 29)).heap.size (w.alloc (.cells #[.int .i64 op, .int .i64 a, .int .i64 b, .int .i64 c] 29)) w'))
    (CB : Hid (∀ w, Calls Tryd.prog 52 #[.int .u8 sc] w fun e w' => e = .returned (.tuple #[.int .i64 lo, .int .i64 hi]) ∧ w' = w))
    (CA : Hid (∀ w, Calls Tryd.prog 53 #[.int .i64 a, .bool sa] w fun e w' => e = .returned (.bool ra) ∧ w' = w))
    (CC : Hid (∀ w, Calls Tryd.prog 53 #[.int .i64 b, .bool sb] w fun e w' => e = .returned (.bool rb) ∧ w' = w))
    (q : Bool) (hq : (is && ra && rb && decide (lo ≤ c) && decide (c ≤ hi)) = q) :
    Calls Tryd.prog 21 #[.agg #[.int .i64 op, .int .i64 a, .int .i64 b, .int .i64 c]] w fun e w' => e = .returned (.int .i64 (chkE q)) ∧ Below w.heap.size w w' := by
  cases is
  · obtain rfl : q = false := by simpa using hq.symm
    have tok := trivial
    clear hq
    go_enter Tryd.func21, Tryd.ntmps21
    go_wp2_with (first
      | (go_at_call 22; refine CS.out.mono ?_; rintro e w1 ⟨rfl, hb1⟩; have k0 : w1.cell? ⟨w.heap.size, 1, none⟩ = some (.int .i64 a) := (hb1.cell (p := ⟨w.heap.size, 1, none⟩) (by simp)).trans (by simp); have k1 : w1.cell? ⟨w.heap.size, 2, none⟩ = some (.int .i64 b) := (hb1.cell (p := ⟨w.heap.size, 2, none⟩) (by simp)).trans (by simp); have k2 : w1.cell? ⟨w.heap.size, 3, none⟩ = some (.int .i64 c) := (hb1.cell (p := ⟨w.heap.size, 3, none⟩) (by simp)).trans (by simp); have HB := Lib.hid hb1; have hz := hb1.size; have hz1 : w.heap.size + 1 ≤ w1.heap.size := (by simpa using hz); have hz2 : w.heap.size < w1.heap.size := (by omega); clear hz1; have hz3 : ¬ (w.heap.size = w1.heap.size) := (by omega); clear hb1 hz)
      | (go_at_call 52; refine (CB.out _).mono ?_; rintro e w2 ⟨rfl, hw2⟩; rw [hw2]; clear hw2)
      | (go_at_call 53; (with_reducible refine (CA.out _).mono ?_); rintro e w2 ⟨rfl, hw2⟩; rw [hw2]; clear hw2)
      | (go_at_call 53; (with_reducible refine (CC.out _).mono ?_); rintro e w2 ⟨rfl, hw2⟩; rw [hw2]; clear hw2))
    refine bodyPost_ret (v := .int .i64 1) (by simp [results, Tryd.results21, go_sem]) rfl ⟨rfl, ?_⟩
    exact (((Below.refl _ _).alloc (Nat.le_refl _) _).trans (HB.out.mono (by simp))).alloc (by omega) _
  cases ra
  · obtain rfl : q = false := by simpa using hq.symm
    have tok := trivial
    clear hq
    go_enter Tryd.func21, Tryd.ntmps21
    go_wp2_with (first
      | (go_at_call 22; refine CS.out.mono ?_; rintro e w1 ⟨rfl, hb1⟩; have k0 : w1.cell? ⟨w.heap.size, 1, none⟩ = some (.int .i64 a) := (hb1.cell (p := ⟨w.heap.size, 1, none⟩) (by simp)).trans (by simp); have k1 : w1.cell? ⟨w.heap.size, 2, none⟩ = some (.int .i64 b) := (hb1.cell (p := ⟨w.heap.size, 2, none⟩) (by simp)).trans (by simp); have k2 : w1.cell? ⟨w.heap.size, 3, none⟩ = some (.int .i64 c) := (hb1.cell (p := ⟨w.heap.size, 3, none⟩) (by simp)).trans (by simp); have HB := Lib.hid hb1; have hz := hb1.size; have hz1 : w.heap.size + 1 ≤ w1.heap.size := (by simpa using hz); have hz2 : w.heap.size < w1.heap.size := (by omega); clear hz1; have hz3 : ¬ (w.heap.size = w1.heap.size) := (by omega); clear hb1 hz)
      | (go_at_call 52; refine (CB.out _).mono ?_; rintro e w2 ⟨rfl, hw2⟩; rw [hw2]; clear hw2)
      | (go_at_call 53; (with_reducible refine (CA.out _).mono ?_); rintro e w2 ⟨rfl, hw2⟩; rw [hw2]; clear hw2)
      | (go_at_call 53; (with_reducible refine (CC.out _).mono ?_); rintro e w2 ⟨rfl, hw2⟩; rw [hw2]; clear hw2))
    refine bodyPost_ret (v := .int .i64 1) (by simp [results, Tryd.results21, go_sem]) rfl ⟨rfl, ?_⟩
    exact (((Below.refl _ _).alloc (Nat.le_refl _) _).trans (HB.out.mono (by simp))).alloc (by omega) _
  cases rb
  · obtain rfl : q = false := by simpa using hq.symm
    have tok := trivial
    clear hq
    go_enter Tryd.func21, Tryd.ntmps21
    go_wp2_with (first
      | (go_at_call 22; refine CS.out.mono ?_; rintro e w1 ⟨rfl, hb1⟩; have k0 : w1.cell? ⟨w.heap.size, 1, none⟩ = some (.int .i64 a) := (hb1.cell (p := ⟨w.heap.size, 1, none⟩) (by simp)).trans (by simp); have k1 : w1.cell? ⟨w.heap.size, 2, none⟩ = some (.int .i64 b) := (hb1.cell (p := ⟨w.heap.size, 2, none⟩) (by simp)).trans (by simp); have k2 : w1.cell? ⟨w.heap.size, 3, none⟩ = some (.int .i64 c) := (hb1.cell (p := ⟨w.heap.size, 3, none⟩) (by simp)).trans (by simp); have HB := Lib.hid hb1; have hz := hb1.size; have hz1 : w.heap.size + 1 ≤ w1.heap.size := (by simpa using hz); have hz2 : w.heap.size < w1.heap.size := (by omega); clear hz1; have hz3 : ¬ (w.heap.size = w1.heap.size) := (by omega); clear hb1 hz)
      | (go_at_call 52; refine (CB.out _).mono ?_; rintro e w2 ⟨rfl, hw2⟩; rw [hw2]; clear hw2)
      | (go_at_call 53; (with_reducible refine (CA.out _).mono ?_); rintro e w2 ⟨rfl, hw2⟩; rw [hw2]; clear hw2)
      | (go_at_call 53; (with_reducible refine (CC.out _).mono ?_); rintro e w2 ⟨rfl, hw2⟩; rw [hw2]; clear hw2))
    refine bodyPost_ret (v := .int .i64 1) (by simp [results, Tryd.results21, go_sem]) rfl ⟨rfl, ?_⟩
    exact (((Below.refl _ _).alloc (Nat.le_refl _) _).trans (HB.out.mono (by simp))).alloc (by omega) _
  by_cases hlo : c < lo
  · obtain rfl : q = false := by
      rw [← hq]
      have : ¬ (lo ≤ c) := by omega
      simp [this]
    have tok := trivial
    clear hq
    go_enter Tryd.func21, Tryd.ntmps21
    go_wp2_with (first
      | (go_at_call 22; refine CS.out.mono ?_; rintro e w1 ⟨rfl, hb1⟩; have k0 : w1.cell? ⟨w.heap.size, 1, none⟩ = some (.int .i64 a) := (hb1.cell (p := ⟨w.heap.size, 1, none⟩) (by simp)).trans (by simp); have k1 : w1.cell? ⟨w.heap.size, 2, none⟩ = some (.int .i64 b) := (hb1.cell (p := ⟨w.heap.size, 2, none⟩) (by simp)).trans (by simp); have k2 : w1.cell? ⟨w.heap.size, 3, none⟩ = some (.int .i64 c) := (hb1.cell (p := ⟨w.heap.size, 3, none⟩) (by simp)).trans (by simp); have HB := Lib.hid hb1; have hz := hb1.size; have hz1 : w.heap.size + 1 ≤ w1.heap.size := (by simpa using hz); have hz2 : w.heap.size < w1.heap.size := (by omega); clear hz1; have hz3 : ¬ (w.heap.size = w1.heap.size) := (by omega); clear hb1 hz)
      | (go_at_call 52; refine (CB.out _).mono ?_; rintro e w2 ⟨rfl, hw2⟩; rw [hw2]; clear hw2)
      | (go_at_call 53; (with_reducible refine (CA.out _).mono ?_); rintro e w2 ⟨rfl, hw2⟩; rw [hw2]; clear hw2)
      | (go_at_call 53; (with_reducible refine (CC.out _).mono ?_); rintro e w2 ⟨rfl, hw2⟩; rw [hw2]; clear hw2))
    refine bodyPost_ret (v := .int .i64 1) (by simp [results, Tryd.results21, go_sem]) rfl ⟨rfl, ?_⟩
    exact (((Below.refl _ _).alloc (Nat.le_refl _) _).trans (HB.out.mono (by simp))).alloc (by omega) _
  by_cases hhi : hi < c
  · obtain rfl : q = false := by
      rw [← hq]
      have : ¬ (c ≤ hi) := by omega
      simp [this]
    have tok := trivial
    clear hq
    go_enter Tryd.func21, Tryd.ntmps21
    go_wp2_with (first
      | (go_at_call 22; refine CS.out.mono ?_; rintro e w1 ⟨rfl, hb1⟩; have k0 : w1.cell? ⟨w.heap.size, 1, none⟩ = some (.int .i64 a) := (hb1.cell (p := ⟨w.heap.size, 1, none⟩) (by simp)).trans (by simp); have k1 : w1.cell? ⟨w.heap.size, 2, none⟩ = some (.int .i64 b) := (hb1.cell (p := ⟨w.heap.size, 2, none⟩) (by simp)).trans (by simp); have k2 : w1.cell? ⟨w.heap.size, 3, none⟩ = some (.int .i64 c) := (hb1.cell (p := ⟨w.heap.size, 3, none⟩) (by simp)).trans (by simp); have HB := Lib.hid hb1; have hz := hb1.size; have hz1 : w.heap.size + 1 ≤ w1.heap.size := (by simpa using hz); have hz2 : w.heap.size < w1.heap.size := (by omega); clear hz1; have hz3 : ¬ (w.heap.size = w1.heap.size) := (by omega); clear hb1 hz)
      | (go_at_call 52; refine (CB.out _).mono ?_; rintro e w2 ⟨rfl, hw2⟩; rw [hw2]; clear hw2)
      | (go_at_call 53; (with_reducible refine (CA.out _).mono ?_); rintro e w2 ⟨rfl, hw2⟩; rw [hw2]; clear hw2)
      | (go_at_call 53; (with_reducible refine (CC.out _).mono ?_); rintro e w2 ⟨rfl, hw2⟩; rw [hw2]; clear hw2))
    refine bodyPost_ret (v := .int .i64 1) (by simp [results, Tryd.results21, go_sem]) rfl ⟨rfl, ?_⟩
    exact (((Below.refl _ _).alloc (Nat.le_refl _) _).trans (HB.out.mono (by simp))).alloc (by omega) _
  · obtain rfl : q = true := by
      rw [← hq]
      have h1 : lo ≤ c := by omega
      have h2 : c ≤ hi := by omega
      simp [h1, h2]
    have tok := trivial
    clear hq
    go_enter Tryd.func21, Tryd.ntmps21
    go_wp2_with (first
      | (go_at_call 22; refine CS.out.mono ?_; rintro e w1 ⟨rfl, hb1⟩; have k0 : w1.cell? ⟨w.heap.size, 1, none⟩ = some (.int .i64 a) := (hb1.cell (p := ⟨w.heap.size, 1, none⟩) (by simp)).trans (by simp); have k1 : w1.cell? ⟨w.heap.size, 2, none⟩ = some (.int .i64 b) := (hb1.cell (p := ⟨w.heap.size, 2, none⟩) (by simp)).trans (by simp); have k2 : w1.cell? ⟨w.heap.size, 3, none⟩ = some (.int .i64 c) := (hb1.cell (p := ⟨w.heap.size, 3, none⟩) (by simp)).trans (by simp); have HB := Lib.hid hb1; have hz := hb1.size; have hz1 : w.heap.size + 1 ≤ w1.heap.size := (by simpa using hz); have hz2 : w.heap.size < w1.heap.size := (by omega); clear hz1; have hz3 : ¬ (w.heap.size = w1.heap.size) := (by omega); clear hb1 hz)
      | (go_at_call 52; refine (CB.out _).mono ?_; rintro e w2 ⟨rfl, hw2⟩; rw [hw2]; clear hw2)
      | (go_at_call 53; (with_reducible refine (CA.out _).mono ?_); rintro e w2 ⟨rfl, hw2⟩; rw [hw2]; clear hw2)
      | (go_at_call 53; (with_reducible refine (CC.out _).mono ?_); rintro e w2 ⟨rfl, hw2⟩; rw [hw2]; clear hw2))
    refine bodyPost_ret (v := .int .i64 0) (by simp [results, Tryd.results21, go_sem]) rfl ⟨rfl, ?_⟩
    exact (((Below.refl _ _).alloc (Nat.le_refl _) _).trans (HB.out.mono (by simp))).alloc (by omega) _

theorem check_any (op a b c : Int) (w : World) (hl : LaidW w) :
    Calls Tryd.prog 21 #[.agg #[.int .i64 op, .int .i64 a, .int .i64 b, .int .i64 c]] w fun e w' => e = .returned (.int .i64 (chkE (chk op a b c))) ∧ Below w.heap.size w w' :=
  check_walk op a b c (shapeOf op).isSome ((shapeOf op).getD noShape).a ((shapeOf op).getD noShape).b ((shapeOf op).getD noShape).word ((shapeOf op).getD noShape).c _ _ _ _ w
    (Lib.hid (shape_any op _ (hl.below ((Below.refl _ _).alloc (Nat.le_refl _) _)))) (Lib.hid (bounds_any _ (shape_c op))) (Lib.hid (reg_any a _)) (Lib.hid (reg_any b _)) (chk op a b c) rfl
end Go.Proofs.YtljjdkjmciheeaaDoor.P
