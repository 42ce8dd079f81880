/- The closure of perm.Text at each sign. -/
import Derived.Test.YtljjdkjmciheeaaDoorPa
namespace Go.Proofs.YtljjdkjmciheeaaDoor.P
open Go.RowKit Go.Lib

theorem and_one : ∀ n : Fin 128, bits BinOp.and IntKind.i64 (n.val : Int) 1 = (n.val : Int) % 2 := by decide +kernel
theorem and_one' (x : Int) (h0 : 0 ≤ x) (h1 : x ≤ 127) : bits BinOp.and IntKind.i64 x 1 = x % 2 := by
  have h := and_one ⟨x.toNat, by omega⟩
  have e : ((x.toNat : Nat) : Int) = x := by omega
  simp only [e] at h
  exact h
/-- Is a sign among those of p? -/
def keepB (p : Int) (c : UInt8) : Bool := decide (p / 2 ^ (signIdx c.toNat).toNat % 2 = 1)

set_option maxHeartbeats 1000000 in
set_option maxRecDepth 100000 in
theorem sign_0 (p : Int) (h0 : 0 ≤ p) (h1 : p ≤ 127) (b : Nat) (w : World) (hc : w.cell? ⟨b, 0, none⟩ = some (.int .i64 p)) :
    Calls Tryd.prog 18 #[.int .i32 114, .pointer (some ⟨b, 0, none⟩)] w fun e w' => e = .returned (.int .i32 (if keepB p 114 then 114 else -1)) ∧ Below w.heap.size w w' := by
  have HX := Lib.hid (show ∀ W, Calls Tryd.prog 19 #[.string ⟨#[114, 119, 120, 82, 87, 115, 117]⟩, .int .i32 114] W fun e w' => e = .returned (.int .i64 0) ∧ w' = W from idx_ascii 114 (by decide) (by decide))
  have e1 : (signIdx ((114 : UInt8).toNat)).toNat = 0 := by decide
  have ha := and_one' (p / 1) (by omega) (by omega)
  by_cases hk : p / 1 % 2 = 1
  · have hr : (if keepB p 114 = true then (114 : Int) else -1) = 114 := by simp only [keepB, e1]; rw [if_pos (by simpa using hk)]
    have hb : (bits BinOp.and IntKind.i64 (p / 1) 1 == 0) = false := by rw [ha, hk]; rfl
    rw [hr]
    rw [Int.ediv_one] at hb
    clear ha hk hr e1
    go_enter Tryd.func18, Tryd.ntmps18
    go_wp2
    go_quiet ((go_at_call 19; exact Calls.quiet_of_same (HX.out _)))
    go_wp2
    go_ret
    exact ⟨rfl, below_drewN (Below.refl _ _) _⟩
  · have hr : (if keepB p 114 = true then (114 : Int) else -1) = -1 := by simp only [keepB, e1]; rw [if_neg (by simpa using hk)]
    have hb : (bits BinOp.and IntKind.i64 (p / 1) 1 == 0) = true := by
      have : p / 1 % 2 = 0 := by omega
      rw [ha, this]; rfl
    rw [hr]
    rw [Int.ediv_one] at hb
    clear ha hk hr e1
    go_enter Tryd.func18, Tryd.ntmps18
    go_wp2
    go_quiet ((go_at_call 19; exact Calls.quiet_of_same (HX.out _)))
    go_wp2
    go_ret
    exact ⟨rfl, below_drewN (Below.refl _ _) _⟩

set_option maxHeartbeats 1000000 in
set_option maxRecDepth 100000 in
theorem sign_1 (p : Int) (h0 : 0 ≤ p) (h1 : p ≤ 127) (b : Nat) (w : World) (hc : w.cell? ⟨b, 0, none⟩ = some (.int .i64 p)) :
    Calls Tryd.prog 18 #[.int .i32 119, .pointer (some ⟨b, 0, none⟩)] w fun e w' => e = .returned (.int .i32 (if keepB p 119 then 119 else -1)) ∧ Below w.heap.size w w' := by
  have HX := Lib.hid (show ∀ W, Calls Tryd.prog 19 #[.string ⟨#[114, 119, 120, 82, 87, 115, 117]⟩, .int .i32 119] W fun e w' => e = .returned (.int .i64 1) ∧ w' = W from idx_ascii 119 (by decide) (by decide))
  have e1 : (signIdx ((119 : UInt8).toNat)).toNat = 1 := by decide
  have ha := and_one' (p / 2) (by omega) (by omega)
  by_cases hk : p / 2 % 2 = 1
  · have hr : (if keepB p 119 = true then (119 : Int) else -1) = 119 := by simp only [keepB, e1]; rw [if_pos (by simpa using hk)]
    have hb : (bits BinOp.and IntKind.i64 (p / 2) 1 == 0) = false := by rw [ha, hk]; rfl
    rw [hr]
    clear ha hk hr e1
    go_enter Tryd.func18, Tryd.ntmps18
    go_wp2
    go_quiet ((go_at_call 19; exact Calls.quiet_of_same (HX.out _)))
    go_wp2
    go_ret
    exact ⟨rfl, below_drewN (Below.refl _ _) _⟩
  · have hr : (if keepB p 119 = true then (119 : Int) else -1) = -1 := by simp only [keepB, e1]; rw [if_neg (by simpa using hk)]
    have hb : (bits BinOp.and IntKind.i64 (p / 2) 1 == 0) = true := by
      have : p / 2 % 2 = 0 := by omega
      rw [ha, this]; rfl
    rw [hr]
    clear ha hk hr e1
    go_enter Tryd.func18, Tryd.ntmps18
    go_wp2
    go_quiet ((go_at_call 19; exact Calls.quiet_of_same (HX.out _)))
    go_wp2
    go_ret
    exact ⟨rfl, below_drewN (Below.refl _ _) _⟩

set_option maxHeartbeats 1000000 in
set_option maxRecDepth 100000 in
theorem sign_2 (p : Int) (h0 : 0 ≤ p) (h1 : p ≤ 127) (b : Nat) (w : World) (hc : w.cell? ⟨b, 0, none⟩ = some (.int .i64 p)) :
    Calls Tryd.prog 18 #[.int .i32 120, .pointer (some ⟨b, 0, none⟩)] w fun e w' => e = .returned (.int .i32 (if keepB p 120 then 120 else -1)) ∧ Below w.heap.size w w' := by
  have HX := Lib.hid (show ∀ W, Calls Tryd.prog 19 #[.string ⟨#[114, 119, 120, 82, 87, 115, 117]⟩, .int .i32 120] W fun e w' => e = .returned (.int .i64 2) ∧ w' = W from idx_ascii 120 (by decide) (by decide))
  have e1 : (signIdx ((120 : UInt8).toNat)).toNat = 2 := by decide
  have ha := and_one' (p / 4) (by omega) (by omega)
  by_cases hk : p / 4 % 2 = 1
  · have hr : (if keepB p 120 = true then (120 : Int) else -1) = 120 := by simp only [keepB, e1]; rw [if_pos (by simpa using hk)]
    have hb : (bits BinOp.and IntKind.i64 (p / 4) 1 == 0) = false := by rw [ha, hk]; rfl
    rw [hr]
    clear ha hk hr e1
    go_enter Tryd.func18, Tryd.ntmps18
    go_wp2
    go_quiet ((go_at_call 19; exact Calls.quiet_of_same (HX.out _)))
    go_wp2
    go_ret
    exact ⟨rfl, below_drewN (Below.refl _ _) _⟩
  · have hr : (if keepB p 120 = true then (120 : Int) else -1) = -1 := by simp only [keepB, e1]; rw [if_neg (by simpa using hk)]
    have hb : (bits BinOp.and IntKind.i64 (p / 4) 1 == 0) = true := by
      have : p / 4 % 2 = 0 := by omega
      rw [ha, this]; rfl
    rw [hr]
    clear ha hk hr e1
    go_enter Tryd.func18, Tryd.ntmps18
    go_wp2
    go_quiet ((go_at_call 19; exact Calls.quiet_of_same (HX.out _)))
    go_wp2
    go_ret
    exact ⟨rfl, below_drewN (Below.refl _ _) _⟩

set_option maxHeartbeats 1000000 in
set_option maxRecDepth 100000 in
theorem sign_3 (p : Int) (h0 : 0 ≤ p) (h1 : p ≤ 127) (b : Nat) (w : World) (hc : w.cell? ⟨b, 0, none⟩ = some (.int .i64 p)) :
    Calls Tryd.prog 18 #[.int .i32 82, .pointer (some ⟨b, 0, none⟩)] w fun e w' => e = .returned (.int .i32 (if keepB p 82 then 82 else -1)) ∧ Below w.heap.size w w' := by
  have HX := Lib.hid (show ∀ W, Calls Tryd.prog 19 #[.string ⟨#[114, 119, 120, 82, 87, 115, 117]⟩, .int .i32 82] W fun e w' => e = .returned (.int .i64 3) ∧ w' = W from idx_ascii 82 (by decide) (by decide))
  have e1 : (signIdx ((82 : UInt8).toNat)).toNat = 3 := by decide
  have ha := and_one' (p / 8) (by omega) (by omega)
  by_cases hk : p / 8 % 2 = 1
  · have hr : (if keepB p 82 = true then (82 : Int) else -1) = 82 := by simp only [keepB, e1]; rw [if_pos (by simpa using hk)]
    have hb : (bits BinOp.and IntKind.i64 (p / 8) 1 == 0) = false := by rw [ha, hk]; rfl
    rw [hr]
    clear ha hk hr e1
    go_enter Tryd.func18, Tryd.ntmps18
    go_wp2
    go_quiet ((go_at_call 19; exact Calls.quiet_of_same (HX.out _)))
    go_wp2
    go_ret
    exact ⟨rfl, below_drewN (Below.refl _ _) _⟩
  · have hr : (if keepB p 82 = true then (82 : Int) else -1) = -1 := by simp only [keepB, e1]; rw [if_neg (by simpa using hk)]
    have hb : (bits BinOp.and IntKind.i64 (p / 8) 1 == 0) = true := by
      have : p / 8 % 2 = 0 := by omega
      rw [ha, this]; rfl
    rw [hr]
    clear ha hk hr e1
    go_enter Tryd.func18, Tryd.ntmps18
    go_wp2
    go_quiet ((go_at_call 19; exact Calls.quiet_of_same (HX.out _)))
    go_wp2
    go_ret
    exact ⟨rfl, below_drewN (Below.refl _ _) _⟩

set_option maxHeartbeats 1000000 in
set_option maxRecDepth 100000 in
theorem sign_4 (p : Int) (h0 : 0 ≤ p) (h1 : p ≤ 127) (b : Nat) (w : World) (hc : w.cell? ⟨b, 0, none⟩ = some (.int .i64 p)) :
    Calls Tryd.prog 18 #[.int .i32 87, .pointer (some ⟨b, 0, none⟩)] w fun e w' => e = .returned (.int .i32 (if keepB p 87 then 87 else -1)) ∧ Below w.heap.size w w' := by
  have HX := Lib.hid (show ∀ W, Calls Tryd.prog 19 #[.string ⟨#[114, 119, 120, 82, 87, 115, 117]⟩, .int .i32 87] W fun e w' => e = .returned (.int .i64 4) ∧ w' = W from idx_ascii 87 (by decide) (by decide))
  have e1 : (signIdx ((87 : UInt8).toNat)).toNat = 4 := by decide
  have ha := and_one' (p / 16) (by omega) (by omega)
  by_cases hk : p / 16 % 2 = 1
  · have hr : (if keepB p 87 = true then (87 : Int) else -1) = 87 := by simp only [keepB, e1]; rw [if_pos (by simpa using hk)]
    have hb : (bits BinOp.and IntKind.i64 (p / 16) 1 == 0) = false := by rw [ha, hk]; rfl
    rw [hr]
    clear ha hk hr e1
    go_enter Tryd.func18, Tryd.ntmps18
    go_wp2
    go_quiet ((go_at_call 19; exact Calls.quiet_of_same (HX.out _)))
    go_wp2
    go_ret
    exact ⟨rfl, below_drewN (Below.refl _ _) _⟩
  · have hr : (if keepB p 87 = true then (87 : Int) else -1) = -1 := by simp only [keepB, e1]; rw [if_neg (by simpa using hk)]
    have hb : (bits BinOp.and IntKind.i64 (p / 16) 1 == 0) = true := by
      have : p / 16 % 2 = 0 := by omega
      rw [ha, this]; rfl
    rw [hr]
    clear ha hk hr e1
    go_enter Tryd.func18, Tryd.ntmps18
    go_wp2
    go_quiet ((go_at_call 19; exact Calls.quiet_of_same (HX.out _)))
    go_wp2
    go_ret
    exact ⟨rfl, below_drewN (Below.refl _ _) _⟩

set_option maxHeartbeats 1000000 in
set_option maxRecDepth 100000 in
theorem sign_5 (p : Int) (h0 : 0 ≤ p) (h1 : p ≤ 127) (b : Nat) (w : World) (hc : w.cell? ⟨b, 0, none⟩ = some (.int .i64 p)) :
    Calls Tryd.prog 18 #[.int .i32 115, .pointer (some ⟨b, 0, none⟩)] w fun e w' => e = .returned (.int .i32 (if keepB p 115 then 115 else -1)) ∧ Below w.heap.size w w' := by
  have HX := Lib.hid (show ∀ W, Calls Tryd.prog 19 #[.string ⟨#[114, 119, 120, 82, 87, 115, 117]⟩, .int .i32 115] W fun e w' => e = .returned (.int .i64 5) ∧ w' = W from idx_ascii 115 (by decide) (by decide))
  have e1 : (signIdx ((115 : UInt8).toNat)).toNat = 5 := by decide
  have ha := and_one' (p / 32) (by omega) (by omega)
  by_cases hk : p / 32 % 2 = 1
  · have hr : (if keepB p 115 = true then (115 : Int) else -1) = 115 := by simp only [keepB, e1]; rw [if_pos (by simpa using hk)]
    have hb : (bits BinOp.and IntKind.i64 (p / 32) 1 == 0) = false := by rw [ha, hk]; rfl
    rw [hr]
    clear ha hk hr e1
    go_enter Tryd.func18, Tryd.ntmps18
    go_wp2
    go_quiet ((go_at_call 19; exact Calls.quiet_of_same (HX.out _)))
    go_wp2
    go_ret
    exact ⟨rfl, below_drewN (Below.refl _ _) _⟩
  · have hr : (if keepB p 115 = true then (115 : Int) else -1) = -1 := by simp only [keepB, e1]; rw [if_neg (by simpa using hk)]
    have hb : (bits BinOp.and IntKind.i64 (p / 32) 1 == 0) = true := by
      have : p / 32 % 2 = 0 := by omega
      rw [ha, this]; rfl
    rw [hr]
    clear ha hk hr e1
    go_enter Tryd.func18, Tryd.ntmps18
    go_wp2
    go_quiet ((go_at_call 19; exact Calls.quiet_of_same (HX.out _)))
    go_wp2
    go_ret
    exact ⟨rfl, below_drewN (Below.refl _ _) _⟩

set_option maxHeartbeats 1000000 in
set_option maxRecDepth 100000 in
theorem sign_6 (p : Int) (h0 : 0 ≤ p) (h1 : p ≤ 127) (b : Nat) (w : World) (hc : w.cell? ⟨b, 0, none⟩ = some (.int .i64 p)) :
    Calls Tryd.prog 18 #[.int .i32 117, .pointer (some ⟨b, 0, none⟩)] w fun e w' => e = .returned (.int .i32 (if keepB p 117 then 117 else -1)) ∧ Below w.heap.size w w' := by
  have HX := Lib.hid (show ∀ W, Calls Tryd.prog 19 #[.string ⟨#[114, 119, 120, 82, 87, 115, 117]⟩, .int .i32 117] W fun e w' => e = .returned (.int .i64 6) ∧ w' = W from idx_ascii 117 (by decide) (by decide))
  have e1 : (signIdx ((117 : UInt8).toNat)).toNat = 6 := by decide
  have ha := and_one' (p / 64) (by omega) (by omega)
  by_cases hk : p / 64 % 2 = 1
  · have hr : (if keepB p 117 = true then (117 : Int) else -1) = 117 := by simp only [keepB, e1]; rw [if_pos (by simpa using hk)]
    have hb : (bits BinOp.and IntKind.i64 (p / 64) 1 == 0) = false := by rw [ha, hk]; rfl
    rw [hr]
    clear ha hk hr e1
    go_enter Tryd.func18, Tryd.ntmps18
    go_wp2
    go_quiet ((go_at_call 19; exact Calls.quiet_of_same (HX.out _)))
    go_wp2
    go_ret
    exact ⟨rfl, below_drewN (Below.refl _ _) _⟩
  · have hr : (if keepB p 117 = true then (117 : Int) else -1) = -1 := by simp only [keepB, e1]; rw [if_neg (by simpa using hk)]
    have hb : (bits BinOp.and IntKind.i64 (p / 64) 1 == 0) = true := by
      have : p / 64 % 2 = 0 := by omega
      rw [ha, this]; rfl
    rw [hr]
    clear ha hk hr e1
    go_enter Tryd.func18, Tryd.ntmps18
    go_wp2
    go_quiet ((go_at_call 19; exact Calls.quiet_of_same (HX.out _)))
    go_wp2
    go_ret
    exact ⟨rfl, below_drewN (Below.refl _ _) _⟩

theorem sign_any (p : Int) (h0 : 0 ≤ p) (h1 : p ≤ 127) (c : UInt8) (hs : c ∈ ([114, 119, 120, 82, 87, 115, 117] : List UInt8)) (b : Nat) (w : World) (hc : w.cell? ⟨b, 0, none⟩ = some (.int .i64 p)) :
    Calls Tryd.prog 18 #[.int .i32 (c.toNat : Int), .pointer (some ⟨b, 0, none⟩)] w fun e w' => e = .returned (.int .i32 (if keepB p c then (c.toNat : Int) else -1)) ∧ Below w.heap.size w w' := by
  simp only [List.mem_cons, List.mem_nil_iff, or_false] at hs
  rcases hs with rfl | rfl | rfl | rfl | rfl | rfl | rfl
  · exact sign_0 p h0 h1 b w hc
  · exact sign_1 p h0 h1 b w hc
  · exact sign_2 p h0 h1 b w hc
  · exact sign_3 p h0 h1 b w hc
  · exact sign_4 p h0 h1 b w hc
  · exact sign_5 p h0 h1 b w hc
  · exact sign_6 p h0 h1 b w hc
end Go.Proofs.YtljjdkjmciheeaaDoor.P
