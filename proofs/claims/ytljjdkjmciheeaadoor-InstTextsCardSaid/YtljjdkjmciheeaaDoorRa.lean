/- The reference's chr and Digits: the digits of a number are what Itoa gives. -/
import Derived.Test.YtljjdkjmciheeaaDoorNd
import Derived.Laws.BytesString
import Derived.Laws.BytesArg
import Derived.Laws.IdiomStrings
import Derived.IntWalk
import Derived.Outline
namespace Go.Proofs.YtljjdkjmciheeaaDoor.P
open Go.RowKit Go.Lib

set_option maxRecDepth 100000 in
theorem chr_any (n : Int) (h0 : 0 ≤ n) (h1 : n < 256) (w : World) :
    Calls Tryd.prog 57 #[.int .i64 n] w fun e w' => e = .returned (.string ⟨#[UInt8.ofNat n.toNat]⟩) ∧ Below w.heap.size w w' := by
  have hv : (convert 69 9 (.slice (some ⟨w.heap.size, 0, none⟩) 1 1)).run Tryd.prog (w.alloc (.cells #[.int .u8 n] 5)) = .ok (.string ⟨#[UInt8.ofNat n.toNat]⟩) (w.alloc (.cells #[.int .u8 n] 5)) := by
    refine run_convert_bytes_back (P := Tryd.prog) _ 69 9 5 ⟨w.heap.size, 0, none⟩ 1 [UInt8.ofNat n.toNat] Tryd.underlying69 Tryd.underlying5 Tryd.underlying9 ?_
    intro j hj
    simp only [List.length_cons, List.length_nil] at hj
    obtain rfl : j = 0 := by omega
    have e : ((UInt8.ofNat n.toNat).toNat : Int) = n := by simp; omega
    simp only [List.getElem_cons_zero, e]
    simp [Addr.add]
  go_enter Tryd.func57, Tryd.ntmps57
  go_wp2
  go_ret
  exact ⟨rfl, (Below.refl _ _).alloc (Nat.le_refl _) _⟩

theorem dec_ten (u : Nat) (h : 10 ≤ u) : Lib.decDigits u = Lib.decDigits (u / 10) ++ [UInt8.ofNat (48 + u % 10)] := by
  rw [Lib.decDigits, dif_neg (by omega)]
theorem dec_one (u : Nat) (h : u < 10) : Lib.decDigits u = [UInt8.ofNat (48 + u)] := by
  rw [Lib.decDigits, dif_pos h]
theorem dec_size (u : Nat) (h : u < 18446744073709551616) : (Lib.decDigits u).length ≤ 20 := by
  rw [Lib.decDigits_length]; exact Lib.nDigits_le20 u h
def decB (u : Nat) : ByteArray := ⟨(Lib.decDigits u).toArray⟩
theorem decB_size (u : Nat) (h : u < 18446744073709551616) : (decB u).size ≤ 20 := by
  have := dec_size u h
  simpa [decB, ByteArray.size] using this

set_option maxHeartbeats 1000000 in
set_option maxRecDepth 100000 in
theorem digits_pos : ∀ (k n : Nat), n ≤ k → n ≤ 9223372036854775807 → ∀ w : World,
    Calls Tryd.prog 28 #[.int .i64 (n : Int)] w fun e w' => e = .returned (.string (decB n)) ∧ Below w.heap.size w w' := by
  intro k
  induction k with
  | zero =>
    intro n hk hn w
    obtain rfl : n = 0 := by omega
    have HC := Lib.hid (chr_any 48 (by decide) (by decide))
    go_enter Tryd.func28, Tryd.ntmps28
    go_wp2_with (go_at_call 57; refine (HC.out _).mono ?_; rintro e w1 ⟨rfl, hb⟩)
    go_ret
    exact ⟨by rw [decB, dec_one 0 (by decide)]; rfl, hb⟩
  | succ k ih =>
    intro n hk hn w
    by_cases h10 : n < 10
    · have HC := Lib.hid (chr_any (48 + n) (by omega) (by omega))
      have hr : decB n = ⟨#[UInt8.ofNat (48 + (n : Int)).toNat]⟩ := by
        rw [decB, dec_one n h10]
        have : (48 + (n : Int)).toNat = 48 + n := by omega
        rw [this]
      have HR := Lib.hid hr
      clear hr ih
      go_enter Tryd.func28, Tryd.ntmps28
      go_wp2_with (go_at_call 57; refine (HC.out _).mono ?_; rintro e w1 ⟨rfl, hb⟩)
      go_ret
      exact ⟨by rw [HR.out]; rfl, hb⟩
    · obtain ⟨q, hq⟩ : ∃ q, n / 10 = q := ⟨_, rfl⟩
      obtain ⟨r, hr0⟩ : ∃ r, n % 10 = r := ⟨_, rfl⟩
      have e1 : (n : Int) / 10 = (q : Int) := by omega
      have e2 : (n : Int) % 10 = (r : Int) := by omega
      have hr9 : (r : Int) < 10 := by omega
      have HC := Lib.hid (chr_any (48 + (r : Int)) (by omega) (by omega))
      have HI := Lib.hid (ih q (by omega) (by omega))
      have hr : decB n = decB q ++ ⟨#[UInt8.ofNat (48 + (r : Int)).toNat]⟩ := by
        have : (48 + (r : Int)).toNat = 48 + r := by omega
        rw [this, decB, dec_ten n (by omega), hq, hr0, decB]
        apply ByteArray.ext
        simp
      have hz := decB_size q (by omega)
      have HR := Lib.hid hr
      have h10' : 10 ≤ (n : Int) := by omega
      have HQ := Lib.hid hq
      have HR0 := Lib.hid hr0
      clear hr ih hq hr0 hk h10
      go_enter Tryd.func28, Tryd.ntmps28
      go_wp2_with (first | (go_at_call 28; refine (HI.out _).mono ?_; rintro e w1 ⟨rfl, hb1⟩) | (go_at_call 57; refine (HC.out _).mono ?_; rintro e w2 ⟨rfl, hb2⟩))
      go_ret
      exact ⟨by rw [HR.out]; rfl, hb1.trans (hb2.mono hb1.size)⟩

/-- What the loop over a negative number has gathered: z is what is left of it, acc its last digits. -/
structure NegDig (N : Nat) (z : Int) (acc : ByteArray) : Prop where
  le : z ≤ 0
  ge : -(N : Int) ≤ z
  more : z < 0 → decB N = decB z.natAbs ++ acc
  done : z = 0 → decB N = acc
  size : acc.size ≤ 20
theorem NegDig.step {N : Nat} {z : Int} {acc : ByteArray} (h : NegDig N z acc) (hN : N ≤ 9223372036854775808) (hz : z < 0) : NegDig N (z.tdiv 10) (⟨#[UInt8.ofNat (48 - z.tmod 10).toNat]⟩ ++ acc) := by
  obtain ⟨m, rfl⟩ : ∃ m : Nat, z = -(m : Int) := ⟨z.natAbs, by omega⟩
  have hge := h.ge
  have e1 : (-(m : Int)).tdiv 10 = -((m / 10 : Nat) : Int) := by rw [Int.neg_tdiv, Int.tdiv_eq_ediv_of_nonneg (by omega)]; omega
  have e2 : (-(m : Int)).tmod 10 = -((m % 10 : Nat) : Int) := by rw [Int.neg_tmod, Int.tmod_eq_emod_of_nonneg (by omega)]; omega
  have e3 : (48 - -((m % 10 : Nat) : Int)).toNat = 48 + m % 10 := by omega
  have hm := h.more hz
  have e4 : (-(m : Int)).natAbs = m := by omega
  have e5 : (-((m / 10 : Nat) : Int)).natAbs = m / 10 := by omega
  rw [e4] at hm
  rw [e1, e2, e3]
  have hdec : 10 ≤ m → decB m = decB (m / 10) ++ ⟨#[UInt8.ofNat (48 + m % 10)]⟩ := fun h10 => by
    rw [decB, dec_ten m h10, decB]
    apply ByteArray.ext
    simp
  have hone : m < 10 → decB m = ⟨#[UInt8.ofNat (48 + m % 10)]⟩ := fun h10 => by
    rw [decB, dec_one m h10, show m % 10 = m by omega]
  have hN' := decB_size N (by omega)
  have key : (0 < m / 10 → decB N = decB (m / 10) ++ (⟨#[UInt8.ofNat (48 + m % 10)]⟩ ++ acc)) ∧ (m / 10 = 0 → decB N = ⟨#[UInt8.ofNat (48 + m % 10)]⟩ ++ acc) := by
    constructor
    · intro h10
      rw [hm, hdec (by omega), ByteArray.append_assoc]
    · intro h10
      rw [hm, hone (by omega)]
  refine ⟨by omega, by omega, fun hlt => ?_, fun h0 => key.2 (by omega), ?_⟩
  · rw [e5]; exact key.1 (by omega)
  · by_cases h10 : m / 10 = 0
    · rw [← key.2 h10]; exact hN'
    · have := key.1 (by omega)
      have h2 := congrArg ByteArray.size this
      rw [ByteArray.size_append (a := decB (m / 10))] at h2
      omega

set_option maxHeartbeats 2000000 in
set_option maxRecDepth 100000 in
theorem digits_neg (n : Int) (h0 : -9223372036854775808 ≤ n) (h1 : n < 0) (w : World) :
    Calls Tryd.prog 28 #[.int .i64 n] w fun e w' => e = .returned (.string (⟨#[45]⟩ ++ decB n.natAbs)) ∧ Below w.heap.size w w' := by
  go_enter Tryd.func28, Tryd.ntmps28
  go_wp2
  go_loopg [0, 3, 6, 7, 8, 9, 10, 11, 12, 13, 14, 15] n.natAbs (fun gk s0 s3 _ _ _ _ _ _ _ _ _ _ wx => ∃ (z : Int) (acc : ByteArray), s0 = .int .i64 z ∧ s3 = .string acc ∧ NegDig n.natAbs z acc ∧ z.natAbs ≤ gk ∧ Below w.heap.size w wx)
  case atStart => exact ⟨n, ⟨#[]⟩, rfl, rfl, ⟨by omega, by omega, fun _ => by apply ByteArray.ext; simp, fun h => by omega, by decide⟩, Nat.le_refl _, Below.refl _ _⟩
  case round =>
    obtain ⟨z, acc, rfl, rfl, hd, hfu, hbw⟩ := hrel
    by_cases hz : z < 0
    · obtain ⟨g', rfl⟩ : ∃ g', gk = g' + 1 := ⟨gk - 1, by omega⟩
      have hs := hd.step (by omega) hz
      have hge := hd.ge
      have hsz := hd.size
      obtain ⟨q, hq⟩ : ∃ q, z.tdiv 10 = q := ⟨_, rfl⟩
      obtain ⟨r, hr⟩ : ∃ r, z.tmod 10 = r := ⟨_, rfl⟩
      have hqr : q.natAbs < z.natAbs ∧ -9223372036854775808 ≤ q ∧ q ≤ 0 := by
        obtain ⟨m, rfl⟩ : ∃ m : Nat, z = -(m : Int) := ⟨z.natAbs, by omega⟩
        rw [Int.neg_tdiv, Int.tdiv_eq_ediv_of_nonneg (by omega)] at hq
        omega
      have hrr : -10 < r ∧ r ≤ 0 := by
        obtain ⟨m, rfl⟩ : ∃ m : Nat, z = -(m : Int) := ⟨z.natAbs, by omega⟩
        rw [Int.neg_tmod, Int.tmod_eq_emod_of_nonneg (by omega)] at hr
        omega
      rw [hq, hr] at hs
      obtain ⟨c1, c2, c3⟩ := hqr
      obtain ⟨c4, c5⟩ := hrr
      have HC := Lib.hid (chr_any (48 - r) (by omega) (by omega))
      have HS := Lib.hid hs
      have h48 : IntKind.i64.wrap (48 - r) = 48 - r := by rw [IntWalk.i64_in _ (by omega)]
      clear hd hs
      go_wp2_with (go_at_call 57; refine (HC.out _).mono ?_; rintro e w1 ⟨rfl, hb1⟩)
      go_roundg g'
      case measure => omega
      case rel => exact ⟨q, _, rfl, rfl, HS.out, by omega, hbw.trans (hb1.mono hbw.size)⟩
    · obtain rfl : z = 0 := by have := hd.le; omega
      have hr := hd.done rfl
      have hsz := hd.size
      have HR := Lib.hid hr
      clear hr hd
      go_wp2
      go_ret
      exact ⟨by rw [HR.out]; rfl, hbw⟩

theorem itoaB_pos (n : Int) (h : 0 ≤ n) : itoaB n = decB n.toNat := by unfold itoaB Lib.itoa decB; rw [if_neg (by omega)]
theorem itoaB_neg (n : Int) (h : n < 0) : itoaB n = ⟨#[45]⟩ ++ decB n.natAbs := by
  unfold itoaB Lib.itoa decB
  rw [if_pos h]
  apply ByteArray.ext
  simp
/-- Digits is Itoa. -/
theorem digits_any (n : Int) (h0 : -9223372036854775808 ≤ n) (h1 : n ≤ 9223372036854775807) (w : World) :
    Calls Tryd.prog 28 #[.int .i64 n] w fun e w' => e = .returned (.string (itoaB n)) ∧ Below w.heap.size w w' := by
  by_cases h : n < 0
  · rw [itoaB_neg n h]; exact digits_neg n h0 h w
  · rw [itoaB_pos n (by omega)]
    have e : ((n.toNat : Nat) : Int) = n := by omega
    have := digits_pos n.toNat n.toNat (Nat.le_refl _) (by omega) w
    rwa [e] at this
end Go.Proofs.YtljjdkjmciheeaaDoor.P
