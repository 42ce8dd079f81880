/- Contracts of small functions of the program and of the reference, by hand: Copy, Contains at one byte, IsName, numbers. -/
import Derived.Test.YtljjdkjmciheeaaPw0
import Derived.Test.YtljjdkjmciheeaaShelf
import Derived.Lib.Hide
namespace Go.Proofs.Ytljjdkjmciheeaa.P
open Go.RowKit Go.Proofs.YtljjdkjmciheeaaW.PrintWords Go.Proofs.YtljjdkjmciheeaaW.PrintLast Go.Proofs.YtljjdkjmciheeaaW.PrintMore
open Go.Shelf Go.Lib

/-- A literal's length, as the walk writes it. -/
theorem lit_size (l : List UInt8) : (⟨l.toArray⟩ : ByteArray).size = l.length := by simp [ByteArray.size]
/-- A rune of a name. -/
def nameRune (c : Nat) : Bool := (decide (97 ≤ c) && decide (c ≤ 122)) || (decide (48 ≤ c) && decide (c ≤ 57))

theorem isName1_any (r : Nat) (b : Bool) (hb : (!nameRune r) = b) (W : World) : Calls Try.prog 69 #[.int .i32 (r : Int)] W fun e w' => e = .returned (.bool b) ∧ ∃ q, w' = W.drewN q := by
  by_cases h1 : (r : Int) < 97
  · by_cases h3 : (r : Int) < 48
    · obtain rfl : b = true := by rw [← hb]; simp [nameRune]; omega
      clear hb
      go_enter Try.func69, Try.ntmps69
      go_wp2
      go_ret
      exact ⟨rfl, 0, rfl⟩
    · by_cases h4 : (57 : Int) < r
      · obtain rfl : b = true := by rw [← hb]; simp [nameRune]; omega
        clear hb
        go_enter Try.func69, Try.ntmps69
        go_wp2
        go_ret
        exact ⟨rfl, 0, rfl⟩
      · obtain rfl : b = false := by rw [← hb]; simp [nameRune]; omega
        clear hb
        go_enter Try.func69, Try.ntmps69
        go_wp2
        go_ret
        exact ⟨rfl, 0, rfl⟩
  · by_cases h2 : (122 : Int) < r
    · have h3 : ¬ (r : Int) < 48 := by omega
      have h4 : (57 : Int) < r := by omega
      obtain rfl : b = true := by rw [← hb]; simp [nameRune]; omega
      clear hb
      go_enter Try.func69, Try.ntmps69
      go_wp2
      go_ret
      exact ⟨rfl, 0, rfl⟩
    · obtain rfl : b = false := by rw [← hb]; simp [nameRune]; omega
      clear hb
      go_enter Try.func69, Try.ntmps69
      go_wp2
      go_ret
      exact ⟨rfl, 0, rfl⟩
theorem isName1_pays (w : World) : PredAt Try.prog 69 #[] encR (fun c => !nameRune c) w := fun W r _ => isName1_any r _ rfl W

/-- A name: P14. -/
def nameB (s : ByteArray) : Bool := decide (1 ≤ s.size) && decide (s.size ≤ 12) && decide (97 ≤ bt s 0) && s.data.toList.all (fun c => nameRune c.toNat)

theorem decode_high (s : ByteArray) (pos : Nat) (h : 128 ≤ (s.get! pos).toNat) : 128 ≤ (Utf8.decode s pos).1 := by
  unfold Utf8.decode
  simp only [Nat.add_zero]
  rw [if_neg (by omega)]
  repeat' split
  all_goals first | (simp [Utf8.runeError]; done) | (simp_all; omega) | omega

theorem get_at (s : ByteArray) (pos : Nat) (h : pos < s.size) : s.get! pos = s[pos] := by
  simp [ByteArray.get!, ByteArray.getElem_eq_getElem_data, getElem!_pos, h]

theorem idx_name (s : ByteArray) : ∀ (f pos : Nat), s.size ≤ pos + f → (0 ≤ Lib.idxFuncFrom (fun c => !nameRune c) true s f pos ↔ ∃ j, ∃ h : j < s.size, pos ≤ j ∧ nameRune (s[j]'h).toNat = false)
  | 0, pos, hf => by
    simp only [Lib.idxFuncFrom]
    constructor
    · intro h; omega
    · rintro ⟨j, h, hj, _⟩; omega
  | f + 1, pos, hf => by
    unfold Lib.idxFuncFrom
    by_cases hp : pos < s.size
    · rw [if_pos hp]
      by_cases ha : (s[pos]'hp).toNat < 128
      · rw [decode_ascii s pos hp ha]
        by_cases hn : nameRune (s[pos]'hp).toNat = true
        · rw [if_neg (by simp [hn])]
          rw [idx_name s f (pos + 1) (by omega)]
          constructor
          · rintro ⟨j, h, hj, hb⟩; exact ⟨j, h, by omega, hb⟩
          · rintro ⟨j, h, hj, hb⟩
            refine ⟨j, h, ?_, hb⟩
            rcases Nat.lt_or_eq_of_le hj with h1 | h1
            · omega
            · subst h1; rw [hn] at hb; cases hb
        · rw [if_pos (by simp [hn])]
          exact ⟨fun _ => ⟨pos, hp, Nat.le_refl _, by simpa using hn⟩, fun _ => by omega⟩
      · have hd := decode_high s pos (by rw [get_at s pos hp]; omega)
        have hr : nameRune (Utf8.decode s pos).1 = false := by simp [nameRune]; omega
        rw [if_pos (by simp [hr])]
        refine ⟨fun _ => ⟨pos, hp, Nat.le_refl _, ?_⟩, fun _ => by omega⟩
        simp [nameRune]; omega
    · rw [if_neg hp]
      constructor
      · intro h; omega
      · rintro ⟨j, h, hj, _⟩; omega

theorem idx_all (s : ByteArray) : decide (0 ≤ Lib.idxFunc (fun c => !nameRune c) true s) = !(s.data.toList.all (fun c => nameRune c.toNat)) := by
  unfold Lib.idxFunc
  have hi := idx_name s s.size 0 (by omega)
  cases h : s.data.toList.all (fun c => nameRune c.toNat) with
  | true =>
    simp only [Bool.not_true, decide_eq_false_iff_not]
    rw [hi]
    rintro ⟨j, hj, _, hb⟩
    have := List.all_eq_true.1 h (s[j]'hj) (by rw [ByteArray.getElem_eq_getElem_data]; simp)
    rw [hb] at this; cases this
  | false =>
    simp only [Bool.not_false, decide_eq_true_eq]
    rw [hi]
    obtain ⟨x, hx, hb⟩ := List.all_eq_false.1 h
    obtain ⟨j, hj, rfl⟩ := List.getElem_of_mem hx
    refine ⟨j, by simpa using hj, Nat.zero_le _, ?_⟩
    rw [ByteArray.getElem_eq_getElem_data]
    simpa using hb

def prog_IsName.f (a0 : ByteArray) : Option Bool := some (nameB a0)
set_option maxHeartbeats 1000000 in
theorem prog_IsName.calls (a0 : ByteArray) (r : Bool) (w : World) (h : prog_IsName.f a0 = some r) :
    Calls Try.prog 47 #[.string a0] w fun e w' => e = .returned (.bool r) ∧ Below w.heap.size w w' := by
  have hr : nameB a0 = r := Option.some.inj h
  clear h
  have eg : ∀ args w, (callFunc 69 args).run Try.prog w = .ok (.enter 69 args) w := enters_of Try.func69 (by kernel_rfl) rfl
  have HC := Lib.hid (Try.strings_ContainsFunc 69 #[] eg (fun c => !nameRune c) a0 w (isName1_pays w))
  by_cases h1 : a0.size = 0
  · obtain rfl : r = false := by rw [← hr]; simp [nameB, h1]
    clear hr
    have e1 : a0.toList = [] := by rw [Lib.toList_data]; exact List.eq_nil_of_length_eq_zero (by simpa using h1)
    have e2 : a0.toList.isEmpty = true := by rw [e1]; rfl
    have H1 := Lib.hid h1
    clear h1
    go_enter Try.func47, Try.ntmps47
    go_wp2
    go_ret
    exact ⟨rfl, Below.refl _ _⟩
  · have e1 : a0.toList.isEmpty = false := by
      rw [Lib.toList_data]
      cases hl : a0.data.toList with
      | nil => exact absurd (show a0.size = 0 by rw [Lib.size_eq, hl]; rfl) h1
      | cons x l => rfl
    have h0 : 0 < a0.size := by omega
    clear h1
    by_cases h2 : 12 < a0.size
    · obtain rfl : r = false := by rw [← hr]; simp [nameB]; omega
      clear hr
      have h2' : (12 : Int) < (a0.size : Int) := by omega
      go_enter Try.func47, Try.ntmps47
      go_wp2
      go_ret
      exact ⟨rfl, Below.refl _ _⟩
    · have h2' : ¬ (12 : Int) < (a0.size : Int) := by omega
      have hb : ((a0[0]'h0).toNat : Int) = bt a0 0 := bt_at a0 0 h0
      by_cases h3 : bt a0 0 < 97
      · obtain rfl : r = false := by rw [← hr]; simp [nameB]; omega
        clear hr
        rw [← hb] at h3
        clear hb
        go_enter Try.func47, Try.ntmps47
        go_wp2
        go_ret
        exact ⟨rfl, Below.refl _ _⟩
      · have hall := idx_all a0
        rw [hall] at HC
        obtain ⟨b, hbb⟩ : ∃ b, (a0.data.toList.all fun c => nameRune c.toNat) = b := ⟨_, rfl⟩
        rw [hbb] at HC
        obtain rfl : r = b := by rw [← hr]; simp [nameB, hbb]; intro; omega
        clear hr hbb hall
        rw [← hb] at h3
        clear hb
        go_enter Try.func47, Try.ntmps47
        go_wp2_with (go_at_call 68; refine HC.out.mono ?_; rintro e w' ⟨rfl, hbl⟩)
        go_ret
        exact ⟨by simp, hbl⟩

/-- 'append([]int(nil), l...)'. -/
def custodianref_Copy_int.f (l0 : List Int) : Option (List Int) := if l0.length < 17592186044416 then some l0 else none
set_option maxHeartbeats 1000000 in
theorem custodianref_Copy_int.calls (A0 : Option Addr) (c0 : Nat) (l0 : List Int) (r : List Int) (w : World) (hr0 : Kd.C (Kd.int .i64) w A0 l0.length l0) (hc0 : l0.length ≤ c0) (h : custodianref_Copy_int.f l0 = some r) :
    Calls Try.prog 20 #[.slice A0 l0.length c0] w fun e w' => ∃ v0_ : Value, e = .returned (v0_) ∧ Kd.R (Kd.int .i64) 3 w' w.heap.size (fun _ => True) v0_ r ∧ Below w.heap.size w w' := by
  have hl : l0.length < 17592186044416 ∧ l0 = r := by
    unfold custodianref_Copy_int.f at h
    split at h
    · exact ⟨by assumption, Option.some.inj h⟩
    · cases h
  obtain ⟨hlim, rfl⟩ := hl
  clear h
  have HR := Aside0.mk hr0
  clear hr0
  go_enter Try.func20, Try.ntmps20
  go_wp2_with (at_builtin; refine Kd.R_append_row (Value.int .i64) 0 (h1 := fun _ => rfl) w.heap.size rfl (.const (.slice none 0 0)) (.tmp 3) 22 3 (.int .i64 0) 8 rfl Try.underlying22 info3 rfl (by decide) (.slice none 0 0) ([] : List Int) l0 A0 l0.length c0 (fun _ => True) rfl rfl (fun _ _ => trivial) (Kd.R_nil (Kd.int .i64) 3 w w.heap.size (fun _ => True)) HR.out (Below.refl _ _) (Nat.le_refl _) (by simp; omega) ?_; intro v1 w1 ho hb _ _; have HO := Aside0.mk ho; have HB := Aside0.mk hb; clear ho hb)
  go_ret
  exact ⟨_, rfl, HO.out, HB.out⟩

def strings_Contains.f (a0 a1 : ByteArray) : Option Bool := if h : a1.size = 1 then some (decide (0 ≤ Lib.indexByte a0.data.toList (a1[0]'(by omega)))) else none
theorem strings_Contains.calls (a0 a1 : ByteArray) (r : Bool) (w : World) (h : strings_Contains.f a0 a1 = some r) :
    Calls Try.prog 72 #[.string a0, .string a1] w fun e w' => e = .returned (.bool r) ∧ Drawn0 w w' := by
  unfold strings_Contains.f at h
  split at h
  · rename_i h1
    have hr := Option.some.inj h
    have e : a1 = ⟨#[a1[0]'(by omega)]⟩ := by
      apply ByteArray.ext
      apply Array.ext
      · simpa using h1
      · intro i hi hi2
        have : i = 0 := by simp at hi2; omega
        subst this
        simp [ByteArray.getElem_eq_getElem_data]
    rw [← hr]
    obtain ⟨c, hc⟩ : ∃ c, a1[0]'(by omega) = c := ⟨_, rfl⟩
    rw [hc] at e ⊢
    rw [e]
    exact (Try.strings_Contains_one a0 c w).mono fun e w' ⟨h1, h2⟩ => ⟨h1, by subst h2; exact Drawn0.refl _⟩
  · cases h

theorem wrap64_32 (n : Int) : wrap64 (wrap32 n) = wrap32 n := by unfold wrap64 wrap32; omega
theorem num_Wrap_any (n : Int) (w : World) : Calls Try.prog 67 #[.int .i64 n] w fun e w' => e = .returned (.int .i64 (wrap32 n)) ∧ w = w' := by
  go_enter Try.func67, Try.ntmps67
  go_wp2
  go_ret
  exact ⟨by show Ending.returned (.int .i64 (wrap64 (wrap32 n))) = _; rw [wrap64_32], rfl⟩

end Go.Proofs.Ytljjdkjmciheeaa.P
