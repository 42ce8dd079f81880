/- The reference's Perm. -/
import Derived.Test.YtljjdkjmciheeaaDoorPb
namespace Go.Proofs.YtljjdkjmciheeaaDoor.P
open Go.RowKit Go.Lib

theorem outside_any (n lo hi : Int) (b : Bool) (hb : (decide (n < lo) || decide (hi < n)) = b) (w : World) :
    Calls Tryd.prog 20 #[.int .i64 n, .int .i64 lo, .int .i64 hi] w fun e w' => e = .returned (.bool b) ∧ w' = w := by
  subst hb
  by_cases h : n < lo
  · go_enter Tryd.func20, Tryd.ntmps20
    go_wp2
    go_ret
    exact ⟨by simp [h], rfl⟩
  · by_cases h2 : hi < n
    · go_enter Tryd.func20, Tryd.ntmps20
      go_wp2
      go_ret
      exact ⟨by simp [h2], rfl⟩
    · go_enter Tryd.func20, Tryd.ntmps20
      go_wp2
      go_ret
      exact ⟨by simp [h, h2], rfl⟩

/-- The signs of what is allowed, one behind the other; '-' where there is none. -/
def kept (p : Int) : List UInt8 := ([114, 119, 120, 82, 87, 115, 117] : List UInt8).filter (keepB p)
def permText (p : Int) : ByteArray := ⟨(if kept p = [] then [45] else kept p).toArray⟩
def keptTo (p : Int) (k : Nat) : List UInt8 := (([114, 119, 120, 82, 87, 115, 117] : List UInt8).take k).filter (keepB p)
theorem keptTo_all (p : Int) : keptTo p 7 = kept p := rfl

theorem keep_of (p : Int) (c : UInt8) (k : Nat) (h : (signIdx c.toNat).toNat = k) : keepB p c = decide (p / 2 ^ k % 2 = 1) := by unfold keepB; rw [h]


theorem app_data (a b : List UInt8) : ((⟨a.toArray⟩ : ByteArray) ++ ⟨b.toArray⟩) = ⟨(a ++ b).toArray⟩ := by
  apply ByteArray.ext; simp
theorem keptTo_more (p : Int) (k : Nat) (c : UInt8) (hL : ([114, 119, 120, 82, 87, 115, 117] : List UInt8).take (k + 1) = ([114, 119, 120, 82, 87, 115, 117] : List UInt8).take k ++ [c]) (h : keepB p c = true) : ((⟨(keptTo p k).toArray⟩ : ByteArray) ++ ⟨#[c]⟩) = ⟨(keptTo p (k + 1)).toArray⟩ := by
  have e : keptTo p (k + 1) = keptTo p k ++ [c] := by
    unfold keptTo
    rw [hL, List.filter_append]
    simp [h]
  rw [e, ← app_data]
theorem keptTo_len (p : Int) (k : Nat) : (keptTo p k).length ≤ 7 := by
  unfold keptTo
  refine Nat.le_trans (List.length_filter_le _ _) ?_
  rw [List.length_take]
  exact Nat.min_le_right _ _
theorem keptTo_same (p : Int) (k : Nat) (c : UInt8) (hL : ([114, 119, 120, 82, 87, 115, 117] : List UInt8).take (k + 1) = ([114, 119, 120, 82, 87, 115, 117] : List UInt8).take k ++ [c]) (h : keepB p c = false) : keptTo p k = keptTo p (k + 1) := by
  unfold keptTo
  rw [hL, List.filter_append]
  simp [h]

set_option maxHeartbeats 2000000 in
set_option maxRecDepth 100000 in
theorem rperm_in (p : Int) (h0 : 0 ≤ p) (h1 : p ≤ 127) (w : World) :
    Calls Tryd.prog 8 #[.int .i64 p] w fun e w' => e = .returned (.tuple #[.string (permText p), .int .i64 0]) ∧ Below w.heap.size w w' := by
  have hz : (⟨#[114, 119, 120, 82, 87, 115, 117]⟩ : ByteArray).size = 7 := rfl
  have HZ := Lib.hid hz
  clear hz
  go_enter Tryd.func8, Tryd.ntmps8
  go_wp2_with (go_at_call 20; refine (outside_any _ _ _ false (by simp; omega) _).mono ?_; rintro e w' ⟨rfl, hw⟩; rw [hw]; clear hw)
  go_loopg [4, 5, 6, 10, 11, 12, 13, 14, 15, 16, 17, 18, 19, 20, 21, 22] 7 (fun gk s4 _ _ _ _ _ _ _ _ _ _ _ _ _ _ _ wx => ∃ pos : Nat, s4 = .string ⟨(keptTo p pos).toArray⟩ ∧ wx.heap[w.heap.size]? = some (.stringIter ⟨#[114, 119, 120, 82, 87, 115, 117]⟩ pos) ∧ Below w.heap.size w wx ∧ 7 ≤ pos + gk ∧ pos ≤ 7)
  case atStart => exact ⟨0, rfl, World.iter_heap w _ 0, (Below.refl _ w).alloc (Nat.le_refl _) _, by omega, by omega⟩
  case round =>
    obtain ⟨pos, rfl, hit, hbw, hfu, hps⟩ := hrel
    by_cases hlt : pos < 7
    · obtain ⟨g', rfl⟩ : ∃ g', gk = g' + 1 := ⟨gk - 1, by omega⟩
      have hnx : ∀ ty, (Instr.next (.pointer (some ⟨w.heap.size, 0, none⟩)) true ty).run Tryd.prog wr = _ := fun ty => Lib.run_next_any_at wr w.heap.size _ pos ty hit (by rw [HZ.out]; exact hlt)
      have hit2 := Lib.iterAt_heap wr w.heap.size _ pos (pos + 1) hit
      have hbw2 := Lib.below_iterAt hbw (k := w.heap.size) (Nat.le_refl _) ⟨#[114, 119, 120, 82, 87, 115, 117]⟩ (pos + 1)
      clear hit
      have hc : pos = 0 ∨ pos = 1 ∨ pos = 2 ∨ pos = 3 ∨ pos = 4 ∨ pos = 5 ∨ pos = 6 := by omega
      rcases hc with rfl | rfl | rfl | rfl | rfl | rfl | rfl
      · have hk := keep_of p 114 0 (by decide)
        have hd : Utf8.decode ⟨#[114, 119, 120, 82, 87, 115, 117]⟩ 0 = (114, 1) := by decide +kernel
        simp only [hd] at hnx
        by_cases hb : p / 1 % 2 = 1
        · have hb' : (p % 2 == 1) = true := by simp; omega
          have HK := Lib.hid (keptTo_more p 0 114 rfl (hk.trans (decide_eq_true (by simpa using hb))))
          have hlim : ¬ 9223372036854775807 < (keptTo p 0).length + (Utf8.encode 114).size := by
            have h1 := keptTo_len p 0
            have h2 : (Utf8.encode 114).size = 1 := by decide
            omega
          clear hb hd hk
          go_wp2
          go_roundg g'
          case measure => omega
          case rel => exact ⟨1, by first | exact congrArg Value.string HK.out | (show Value.string _ = Value.string _; congr 1; exact HK.out), hit2, hbw2, by omega, by omega⟩
        · have hb' : (p % 2 == 1) = false := by simp; omega
          have HK := Lib.hid (keptTo_same p 0 114 rfl (hk.trans (decide_eq_false (by simpa using hb))))
          clear hb hd hk
          go_wp2
          go_roundg g'
          case measure => omega
          case rel => exact ⟨1, by rw [HK.out], hit2, hbw2, by omega, by omega⟩
      · have hk := keep_of p 119 1 (by decide)
        have hd : Utf8.decode ⟨#[114, 119, 120, 82, 87, 115, 117]⟩ 1 = (119, 1) := by decide +kernel
        simp only [hd] at hnx
        by_cases hb : p / 2 % 2 = 1
        · have hb' : (p / 2 % 2 == 1) = true := by simp; omega
          have HK := Lib.hid (keptTo_more p 1 119 rfl (hk.trans (decide_eq_true (by simpa using hb))))
          have hlim : ¬ 9223372036854775807 < (keptTo p 1).length + (Utf8.encode 119).size := by
            have h1 := keptTo_len p 1
            have h2 : (Utf8.encode 119).size = 1 := by decide
            omega
          clear hb hd hk
          go_wp2
          go_roundg g'
          case measure => omega
          case rel => exact ⟨2, by first | exact congrArg Value.string HK.out | (show Value.string _ = Value.string _; congr 1; exact HK.out), hit2, hbw2, by omega, by omega⟩
        · have hb' : (p / 2 % 2 == 1) = false := by simp; omega
          have HK := Lib.hid (keptTo_same p 1 119 rfl (hk.trans (decide_eq_false (by simpa using hb))))
          clear hb hd hk
          go_wp2
          go_roundg g'
          case measure => omega
          case rel => exact ⟨2, by rw [HK.out], hit2, hbw2, by omega, by omega⟩
      · have hk := keep_of p 120 2 (by decide)
        have hd : Utf8.decode ⟨#[114, 119, 120, 82, 87, 115, 117]⟩ 2 = (120, 1) := by decide +kernel
        simp only [hd] at hnx
        by_cases hb : p / 4 % 2 = 1
        · have hb' : (p / 4 % 2 == 1) = true := by simp; omega
          have HK := Lib.hid (keptTo_more p 2 120 rfl (hk.trans (decide_eq_true (by simpa using hb))))
          have hlim : ¬ 9223372036854775807 < (keptTo p 2).length + (Utf8.encode 120).size := by
            have h1 := keptTo_len p 2
            have h2 : (Utf8.encode 120).size = 1 := by decide
            omega
          clear hb hd hk
          go_wp2
          go_roundg g'
          case measure => omega
          case rel => exact ⟨3, by first | exact congrArg Value.string HK.out | (show Value.string _ = Value.string _; congr 1; exact HK.out), hit2, hbw2, by omega, by omega⟩
        · have hb' : (p / 4 % 2 == 1) = false := by simp; omega
          have HK := Lib.hid (keptTo_same p 2 120 rfl (hk.trans (decide_eq_false (by simpa using hb))))
          clear hb hd hk
          go_wp2
          go_roundg g'
          case measure => omega
          case rel => exact ⟨3, by rw [HK.out], hit2, hbw2, by omega, by omega⟩
      · have hk := keep_of p 82 3 (by decide)
        have hd : Utf8.decode ⟨#[114, 119, 120, 82, 87, 115, 117]⟩ 3 = (82, 1) := by decide +kernel
        simp only [hd] at hnx
        by_cases hb : p / 8 % 2 = 1
        · have hb' : (p / 8 % 2 == 1) = true := by simp; omega
          have HK := Lib.hid (keptTo_more p 3 82 rfl (hk.trans (decide_eq_true (by simpa using hb))))
          have hlim : ¬ 9223372036854775807 < (keptTo p 3).length + (Utf8.encode 82).size := by
            have h1 := keptTo_len p 3
            have h2 : (Utf8.encode 82).size = 1 := by decide
            omega
          clear hb hd hk
          go_wp2
          go_roundg g'
          case measure => omega
          case rel => exact ⟨4, by first | exact congrArg Value.string HK.out | (show Value.string _ = Value.string _; congr 1; exact HK.out), hit2, hbw2, by omega, by omega⟩
        · have hb' : (p / 8 % 2 == 1) = false := by simp; omega
          have HK := Lib.hid (keptTo_same p 3 82 rfl (hk.trans (decide_eq_false (by simpa using hb))))
          clear hb hd hk
          go_wp2
          go_roundg g'
          case measure => omega
          case rel => exact ⟨4, by rw [HK.out], hit2, hbw2, by omega, by omega⟩
      · have hk := keep_of p 87 4 (by decide)
        have hd : Utf8.decode ⟨#[114, 119, 120, 82, 87, 115, 117]⟩ 4 = (87, 1) := by decide +kernel
        simp only [hd] at hnx
        by_cases hb : p / 16 % 2 = 1
        · have hb' : (p / 16 % 2 == 1) = true := by simp; omega
          have HK := Lib.hid (keptTo_more p 4 87 rfl (hk.trans (decide_eq_true (by simpa using hb))))
          have hlim : ¬ 9223372036854775807 < (keptTo p 4).length + (Utf8.encode 87).size := by
            have h1 := keptTo_len p 4
            have h2 : (Utf8.encode 87).size = 1 := by decide
            omega
          clear hb hd hk
          go_wp2
          go_roundg g'
          case measure => omega
          case rel => exact ⟨5, by first | exact congrArg Value.string HK.out | (show Value.string _ = Value.string _; congr 1; exact HK.out), hit2, hbw2, by omega, by omega⟩
        · have hb' : (p / 16 % 2 == 1) = false := by simp; omega
          have HK := Lib.hid (keptTo_same p 4 87 rfl (hk.trans (decide_eq_false (by simpa using hb))))
          clear hb hd hk
          go_wp2
          go_roundg g'
          case measure => omega
          case rel => exact ⟨5, by rw [HK.out], hit2, hbw2, by omega, by omega⟩
      · have hk := keep_of p 115 5 (by decide)
        have hd : Utf8.decode ⟨#[114, 119, 120, 82, 87, 115, 117]⟩ 5 = (115, 1) := by decide +kernel
        simp only [hd] at hnx
        by_cases hb : p / 32 % 2 = 1
        · have hb' : (p / 32 % 2 == 1) = true := by simp; omega
          have HK := Lib.hid (keptTo_more p 5 115 rfl (hk.trans (decide_eq_true (by simpa using hb))))
          have hlim : ¬ 9223372036854775807 < (keptTo p 5).length + (Utf8.encode 115).size := by
            have h1 := keptTo_len p 5
            have h2 : (Utf8.encode 115).size = 1 := by decide
            omega
          clear hb hd hk
          go_wp2
          go_roundg g'
          case measure => omega
          case rel => exact ⟨6, by first | exact congrArg Value.string HK.out | (show Value.string _ = Value.string _; congr 1; exact HK.out), hit2, hbw2, by omega, by omega⟩
        · have hb' : (p / 32 % 2 == 1) = false := by simp; omega
          have HK := Lib.hid (keptTo_same p 5 115 rfl (hk.trans (decide_eq_false (by simpa using hb))))
          clear hb hd hk
          go_wp2
          go_roundg g'
          case measure => omega
          case rel => exact ⟨6, by rw [HK.out], hit2, hbw2, by omega, by omega⟩
      · have hk := keep_of p 117 6 (by decide)
        have hd : Utf8.decode ⟨#[114, 119, 120, 82, 87, 115, 117]⟩ 6 = (117, 1) := by decide +kernel
        simp only [hd] at hnx
        by_cases hb : p / 64 % 2 = 1
        · have hb' : (p / 64 % 2 == 1) = true := by simp; omega
          have HK := Lib.hid (keptTo_more p 6 117 rfl (hk.trans (decide_eq_true (by simpa using hb))))
          have hlim : ¬ 9223372036854775807 < (keptTo p 6).length + (Utf8.encode 117).size := by
            have h1 := keptTo_len p 6
            have h2 : (Utf8.encode 117).size = 1 := by decide
            omega
          clear hb hd hk
          go_wp2
          go_roundg g'
          case measure => omega
          case rel => exact ⟨7, by first | exact congrArg Value.string HK.out | (show Value.string _ = Value.string _; congr 1; exact HK.out), hit2, hbw2, by omega, by omega⟩
        · have hb' : (p / 64 % 2 == 1) = false := by simp; omega
          have HK := Lib.hid (keptTo_same p 6 117 rfl (hk.trans (decide_eq_false (by simpa using hb))))
          clear hb hd hk
          go_wp2
          go_roundg g'
          case measure => omega
          case rel => exact ⟨7, by rw [HK.out], hit2, hbw2, by omega, by omega⟩
    · obtain rfl : pos = 7 := by omega
      have hnx : ∀ ty, (Instr.next (.pointer (some ⟨w.heap.size, 0, none⟩)) true ty).run Tryd.prog wr = _ := fun ty => Lib.run_next_end_at wr w.heap.size _ 7 ty hit (by rw [HZ.out]; exact hlt)
      rw [keptTo_all]
      by_cases he : kept p = []
      · have hr : permText p = ⟨#[45]⟩ := by unfold permText; rw [if_pos he]
        have hi : (kept p).isEmpty = true := by rw [he]; rfl
        have HR := Lib.hid hr
        clear he hr
        go_wp2
        go_ret2
        exact ⟨by rw [HR.out]; rfl, hbw⟩
      · have hr : permText p = ⟨(kept p).toArray⟩ := by unfold permText; rw [if_neg he]
        have hi : (kept p).isEmpty = false := by simpa using he
        have HR := Lib.hid hr
        clear he hr
        go_wp2
        go_ret2
        exact ⟨by rw [HR.out]; rfl, hbw⟩

theorem rperm_out (p : Int) (h : p < 0 ∨ 127 < p) (w : World) :
    Calls Tryd.prog 8 #[.int .i64 p] w fun e w' => e = .returned (.tuple #[.string ⟨#[]⟩, .int .i64 1]) ∧ Below w.heap.size w w' := by
  go_enter Tryd.func8, Tryd.ntmps8
  go_wp2_with (go_at_call 20; refine (outside_any _ _ _ true (by rcases h with h | h <;> simp [h]) _).mono ?_; rintro e w' ⟨rfl, hw⟩; rw [hw]; clear hw)
  go_ret2
  exact ⟨rfl, Below.refl _ _⟩
end Go.Proofs.YtljjdkjmciheeaaDoor.P
