/- The contract of file.Pack; file.Read of a short text. -/
import Derived.Test.YtljjdkjmciheeaaFe
namespace Go.Proofs.Ytljjdkjmciheeaa.P
open Go.RowKit Go.Proofs.YtljjdkjmciheeaaW.PrintWords Go.Proofs.YtljjdkjmciheeaaW.PrintLast Go.Proofs.YtljjdkjmciheeaaW.PrintMore
set_option linter.unusedVariables false

/-- The sum of a text's bytes. -/
def sumB (s : ByteArray) : Int := (bytesOf s).sum
theorem bt_bytes (s : ByteArray) (i : Nat) (h : i < s.size) : (bytesOf s)[i]'(by rw [bytesOf_length]; exact h) = bt s (i : Int) := by
  simp [bytesOf, bt, h, ByteArray.getElem_eq_getElem_data]
theorem sum_take (s : ByteArray) (i : Nat) (h : i < s.size) : ((bytesOf s).take (i + 1)).sum = ((bytesOf s).take i).sum + bt s (i : Int) := by
  rw [List.take_succ_eq_append_getElem (by rw [bytesOf_length]; exact h), List.sum_append, bt_bytes s i h]
  simp
theorem sum_bound (s : ByteArray) : ∀ i, i ≤ s.size → 0 ≤ ((bytesOf s).take i).sum ∧ ((bytesOf s).take i).sum ≤ 255 * i
  | 0, _ => by simp
  | i + 1, h => by
    have := sum_bound s i (by omega)
    have := bt_range s (i : Int)
    rw [sum_take s i (by omega)]
    omega
theorem file_sum_go (s : ByteArray) (hs : s.size ≤ 1000000) : ∀ (d k i : Nat), i + d = s.size → d < k →
    file_sum.l0 k s ((bytesOf s).take i).sum (s.size : Int) (i : Int) = some [(sumB s / 256) % 256, sumB s % 256]
  | 0, k, i, hi, hk => by
    obtain ⟨k, rfl⟩ : ∃ m, k = m + 1 := ⟨k - 1, by omega⟩
    have : ((bytesOf s).take i) = bytesOf s := List.take_of_length_le (by rw [bytesOf_length]; omega)
    simp only [file_sum.l0]
    rw [if_neg (by omega), this]
    rfl
  | d + 1, k, i, hi, hk => by
    obtain ⟨k, rfl⟩ : ∃ m, k = m + 1 := ⟨k - 1, by omega⟩
    have ih := file_sum_go s hs d k (i + 1) (by omega) (by omega)
    have hb := bt_range s (i : Int)
    have hn := sum_bound s i (by omega)
    simp only [file_sum.l0]
    rw [if_pos (by omega), if_pos (by omega), if_pos (by omega)]
    have e1 : wrap64 (((bytesOf s).take i).sum + wrap64 (bt s (i : Int))) = ((bytesOf s).take (i + 1)).sum := by
      rw [sum_take s i (by omega)]
      unfold wrap64
      omega
    have e2 : wrap64 ((i : Int) + 1) = ((i + 1 : Nat) : Int) := by unfold wrap64; omega
    rw [e1, e2]
    exact ih
theorem file_sum_is (s : ByteArray) (hs : s.size ≤ 1000000) : file_sum.f (s.size + 1) s = some [(sumB s / 256) % 256, sumB s % 256] := by
  have := file_sum_go s hs s.size (s.size + 1) 0 (by omega) (by omega)
  simpa [file_sum.f] using this

/-- P30: a module as bytes. -/
def packB (l0_0 l0_1 : List Int) (l0_2 : List S57) (l0_3 : List S59) : ByteArray :=
  strOfNums (packNums l0_0 l0_1 l0_2 l0_3 ++ [(sumB (strOfNums (packNums l0_0 l0_1 l0_2 l0_3)) / 256) % 256, sumB (strOfNums (packNums l0_0 l0_1 l0_2 l0_3)) % 256])
def file_Pack.f (l0_0 l0_1 : List Int) (l0_2 : List S57) (l0_3 : List S59) : Option (ByteArray × Int) :=
  some (if modCheck l0_0 l0_1 l0_2 l0_3 = 0 then (packB l0_0 l0_1 l0_2 l0_3, 0) else (⟨#[]⟩, modCheck l0_0 l0_1 l0_2 l0_3))

section
variable (A0_0 : Option Addr) (c0_0 : Nat) (l0_0 : List Int) (A0_1 : Option Addr) (c0_1 : Nat) (l0_1 : List Int) (A0_2 : Option Addr) (c0_2 : Nat) (l0_2 : List S57) (A0_3 : Option Addr) (c0_3 : Nat) (l0_3 : List S59)
set_option maxHeartbeats 2000000 in
set_option maxRecDepth 100000 in
theorem file_Pack_bad (w : World) (hr0_0 : Kd.C (Kd.int .i64) w A0_0 l0_0.length l0_0) (hc0 : l0_0.length ≤ c0_0) (hr0_1 : Kd.C (Kd.int .i64) w A0_1 l0_1.length l0_1) (hc1 : l0_1.length ≤ c0_1)
    (hr0_2 : Kd.C k57 w A0_2 l0_2.length l0_2) (hc2 : l0_2.length ≤ c0_2) (hr0_3 : Kd.C k59 w A0_3 l0_3.length l0_3) (hc3 : l0_3.length ≤ c0_3) (r : Int) (h : modCheck l0_0 l0_1 l0_2 l0_3 = r) (hr : (r != 0) = true) :
    Calls Try.prog 6 #[.agg #[.slice A0_0 l0_0.length c0_0, .slice A0_1 l0_1.length c0_1, .slice A0_2 l0_2.length c0_2, .slice A0_3 l0_3.length c0_3]] w fun e w' => e = .returned (.tuple #[.string ⟨#[]⟩, .int .i64 r]) ∧ Below w.heap.size w w' := by
  have hW : Below w.heap.size w (w.alloc (.cells #[.slice A0_0 l0_0.length c0_0, .slice A0_1 l0_1.length c0_1, .slice A0_2 l0_2.length c0_2, .slice A0_3 l0_3.length c0_3] 26)) := (Below.refl _ _).alloc (Nat.le_refl _) _
  have HC := Lib.hid (module_Check.calls A0_0 c0_0 l0_0 A0_1 c0_1 l0_1 A0_2 c0_2 l0_2 A0_3 c0_3 l0_3 _ r (Kd.C_below hr0_0 hW) hc0 (Kd.C_below hr0_1 hW) hc1 (Kd.C_below hr0_2 hW) hc2 (Kd.C_below hr0_3 hW) hc3 (congrArg some h))
  clear h hr0_0 hr0_1 hr0_2 hr0_3 hW
  go_enter Try.func6, Try.ntmps6
  go_wp2_with fail
  refine HC.out.mono ?_
  rintro e w1 ⟨rfl, hb1⟩
  have HB := Aside0.mk (box_old (box_start hb1))
  clear hb1
  go_wp2
  go_ret2
  exact ⟨rfl, HB.out⟩

theorem file_Pack.calls (r1 : ByteArray) (r2 : Int) (w : World) (hr0_0 : Kd.C (Kd.int .i64) w A0_0 l0_0.length l0_0) (hc0_0 : l0_0.length ≤ c0_0) (hr0_1 : Kd.C (Kd.int .i64) w A0_1 l0_1.length l0_1) (hc0_1 : l0_1.length ≤ c0_1)
    (hr0_2 : Kd.C k57 w A0_2 l0_2.length l0_2) (hc0_2 : l0_2.length ≤ c0_2) (hr0_3 : Kd.C k59 w A0_3 l0_3.length l0_3) (hc0_3 : l0_3.length ≤ c0_3) (h : file_Pack.f l0_0 l0_1 l0_2 l0_3 = some (r1, r2)) :
    Calls Try.prog 6 #[.agg #[.slice A0_0 l0_0.length c0_0, .slice A0_1 l0_1.length c0_1, .slice A0_2 l0_2.length c0_2, .slice A0_3 l0_3.length c0_3]] w fun e w' => e = .returned (.tuple #[.string r1, .int .i64 r2]) ∧ Below w.heap.size w w' := by
  have h := Option.some.inj h
  split at h
  · rename_i h0
    injection h with h1 h2
    subst h1 h2
    have hp := modCheck_parts h0
    have hl := imps_len l0_0 l0_1 l0_2 l0_3 l0_3.length (modCheck_sizes h0) hp.1 hp.2.2.1 hp.2.2.2
    rw [List.take_length] at hl
    change (packNums l0_0 l0_1 l0_2 l0_3).length ≤ 4000 at hl
    exact file_Pack_good A0_0 c0_0 l0_0 A0_1 c0_1 l0_1 A0_2 c0_2 l0_2 A0_3 c0_3 l0_3 w hr0_0 hc0_0 hr0_1 hc0_1 hr0_2 hc0_2 hr0_3 hc0_3 h0 _ _ _ (file_sum_is _ (by rw [strOfNums_size]; omega))
  · rename_i h0
    injection h with h1 h2
    subst h1
    exact file_Pack_bad A0_0 c0_0 l0_0 A0_1 c0_1 l0_1 A0_2 c0_2 l0_2 A0_3 c0_3 l0_3 w hr0_0 hc0_0 hr0_1 hc0_1 hr0_2 hc0_2 hr0_3 hc0_3 r2 h2 (by rw [← h2]; simpa using h0)
end

end Go.Proofs.Ytljjdkjmciheeaa.P
