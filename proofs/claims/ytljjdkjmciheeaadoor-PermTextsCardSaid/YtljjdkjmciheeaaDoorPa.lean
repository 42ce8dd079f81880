/- strings.IndexRune at the signs 'rwxRWsu' and at whatever rune; the closure of perm.Text at a sign. -/
import Derived.Test.YtljjdkjmciheeaaDoorProg
import Derived.Test.YtljjdkjmciheeaaDoorSa
import Derived.Below
import Derived.Deep.Draws
import Derived.Tactics
import Derived.WalkKit
import Derived.KernelRfl
import Derived.RowKit3
import Derived.Deep.LoopGhost
import Derived.Deep.QuietTactic
import Derived.BigQuiet
import Derived.Deep.CutBlock
import Derived.Deep.RegionHeld3
import Derived.Laws.Rows
import Derived.Laws.BitsLemmas
import Derived.Laws.Runes
import Derived.RowKit
import Derived.Lib.Hide
import Derived.Lib.OthersKept
namespace Go.Proofs.YtljjdkjmciheeaaDoor.P
open Go.RowKit Go.Lib

/-- A rune's place among the signs. -/
def signIdx (r : Int) : Int := if r = 114 then 0 else if r = 119 then 1 else if r = 120 then 2 else if r = 82 then 3 else if r = 87 then 4 else if r = 115 then 5 else if r = 117 then 6 else -1
theorem signIdx_ascii : ∀ n : Fin 128, Lib.indexByte [114, 119, 120, 82, 87, 115, 117] n.val.toUInt8 = signIdx (n.val : Int) := by decide +kernel
theorem signIdx_high (r : Int) (h : 128 ≤ r) : signIdx r = -1 := by unfold signIdx; repeat rw [if_neg (by omega)]

theorem decode_sign : ∀ n : Fin 7, (Utf8.decode ⟨#[114, 119, 120, 82, 87, 115, 117]⟩ n.val).1 < 128 ∧ (Utf8.decode ⟨#[114, 119, 120, 82, 87, 115, 117]⟩ n.val).2 = 1 := by decide +kernel

theorem idx_ascii (r : Int) (h0 : 0 ≤ r) (h1 : r < 128) (w : World) :
    Calls Tryd.prog 19 #[.string ⟨#[114, 119, 120, 82, 87, 115, 117]⟩, .int .i32 r] w fun e w' => e = .returned (.int .i64 (signIdx r)) ∧ w' = w := by
  have h := Tryd.strings_IndexRune_ascii ⟨#[114, 119, 120, 82, 87, 115, 117]⟩ r w h0 h1
  have e := signIdx_ascii ⟨r.toNat, by omega⟩
  have e2 : ((r.toNat : Nat) : Int) = r := by omega
  simp only [e2] at e
  rw [← e]
  exact h

set_option maxHeartbeats 1000000 in
set_option maxRecDepth 1000000 in
theorem idx_error (w : World) :
    Calls Tryd.prog 19 #[.string ⟨#[114, 119, 120, 82, 87, 115, 117]⟩, .int .i32 65533] w fun e w' => e = .returned (.int .i64 (-1)) ∧ Below w.heap.size w w' := by
  have hz : (⟨#[114, 119, 120, 82, 87, 115, 117]⟩ : ByteArray).size = 7 := rfl
  have HZ := Lib.hid hz
  clear hz
  go_enter Tryd.func19, Tryd.ntmps19
  go_wp2
  go_loopg [176, 177, 178, 179, 5, 6, 180, 181] 7 (fun gk _ _ _ _ _ _ _ _ wx => ∃ pos : Nat, wx.heap[w.heap.size]? = some (.stringIter ⟨#[114, 119, 120, 82, 87, 115, 117]⟩ pos) ∧ Below w.heap.size w wx ∧ 7 ≤ pos + gk ∧ pos ≤ 7)
  case atStart => exact ⟨0, World.iter_heap w _ 0, (Below.refl _ w).alloc (Nat.le_refl _) _, by omega, by omega⟩
  case round =>
    obtain ⟨pos, hit, hbw, hfu, hps⟩ := hrel
    by_cases hlt : pos < 7
    · obtain ⟨g', rfl⟩ : ∃ g', gk = g' + 1 := ⟨gk - 1, by omega⟩
      have hnx : ∀ ty, (Instr.next (.pointer (some ⟨w.heap.size, 0, none⟩)) true ty).run Tryd.prog wr = _ := fun ty => Lib.run_next_any_at wr w.heap.size _ pos ty hit (by rw [HZ.out]; exact hlt)
      have hd := decode_sign ⟨pos, hlt⟩
      obtain ⟨R, hR⟩ : ∃ R, (Utf8.decode ⟨#[114, 119, 120, 82, 87, 115, 117]⟩ pos).1 = R := ⟨_, rfl⟩
      simp only [hR] at hd hnx
      rw [hd.2] at hnx
      have hR1 : ((R : Int) == 65533) = false := by have := hd.1; simp; omega
      have hR2 : ¬ ((R : Int) = 65533) := by have := hd.1; omega
      have hit2 := Lib.iterAt_heap wr w.heap.size _ pos (pos + 1) hit
      have hbw2 := Lib.below_iterAt hbw (k := w.heap.size) (Nat.le_refl _) ⟨#[114, 119, 120, 82, 87, 115, 117]⟩ (pos + 1)
      clear hit hd hR
      go_wp2
      go_roundg g'
      case measure => omega
      case rel => exact ⟨pos + 1, hit2, hbw2, by omega, by omega⟩
    · obtain rfl : pos = 7 := by omega
      have hnx : ∀ ty, (Instr.next (.pointer (some ⟨w.heap.size, 0, none⟩)) true ty).run Tryd.prog wr = _ := fun ty => Lib.run_next_end_at wr w.heap.size _ 7 ty hit (by rw [HZ.out]; exact hlt)
      go_wp2
      go_ret
      exact ⟨rfl, hbw⟩

theorem indexByte_not : ∀ (l : List UInt8) (c : UInt8), (∀ b ∈ l, b ≠ c) → Lib.indexByte l c = -1
  | [], _, _ => rfl
  | b :: l, c, h => by
    have h1 : (b == c) = false := by simpa using h b (by simp)
    have h2 := indexByte_not l c (fun x hx => h x (by simp [hx]))
    simp [Lib.indexByte, h1, h2]
theorem quiet_add_same {P : Program} {f : FuncId} {args : Array Value} {w : World} {a n : Nat} {v : Value}
    (h : Calls P f args (w.drewN (a + n)) fun e w' => e = .returned v ∧ w' = w.drewN (a + n)) :
    Calls P f args (w.drewN (a + n)) fun e w'' => e = .returned v ∧ ∃ m, w'' = w.drewN (a + m) :=
  h.mono fun _ _ ⟨he, hm⟩ => ⟨he, n, hm⟩
theorem below_drewN {B : Nat} {a w : World} (h : Below B a w) (n : Nat) : Below B a (w.drewN n) := ⟨h.os, h.tape, h.output, h.size, h.block⟩
theorem idxb_none (c : UInt8) (hc : 128 ≤ c.toNat) (s : ByteArray) (w : World) (hs : ∀ b ∈ s.data.toList, b.toNat < 128) :
    Calls Tryd.prog 48 #[.string s, .int .u8 (c.toNat : Int)] w fun e w' => e = .returned (.int .i64 (-1)) ∧ w' = w := by
  have h := Tryd.strings_IndexByte s (c.toNat : Int) w
  have e1 : ((c.toNat : Int).toNat).toUInt8 = c := by simp
  have e2 : Lib.indexByte s.data.toList c = -1 := indexByte_not _ _ (fun b hm he => by have := hs b hm; rw [he] at this; omega)
  rw [e1, e2] at h
  exact h

set_option maxHeartbeats 1000000 in
set_option maxRecDepth 1000000 in
theorem idx_high_2 (r : Int) (E : ByteArray) (hE : Utf8.encode r = E) (hz : E.size = 2) (hb : 128 ≤ (E[1]'(by omega)).toNat) (hr : Utf8.valid r = true) (h128 : 128 ≤ r) (hne : r ≠ 65533) (w : World) :
    Calls Tryd.prog 19 #[.string ⟨#[114, 119, 120, 82, 87, 115, 117]⟩, .int .i32 r] w fun e w' => e = .returned (.int .i64 (-1)) ∧ Below w.heap.size w w' := by
  have hv : (!Lib.validRune r) = false := by
    have := validRune_eq r
    rw [hr] at this
    simp only [Go.validRune] at this
    simp only [Lib.validRune, ← this, Bool.not_true]
  have h0 : 0 ≤ r := by omega
  have h65 : (r == 65533) = false := by simpa using hne
  have hl : ¬ r < 128 := by omega
  have hq : (((({ data := #[114, 119, 120, 82, 87, 115, 117] } : ByteArray)[1]'(by decide)).toNat : Int) != ((E[1]'(by omega)).toNat : Int)) = true := by
    have e : (({ data := #[114, 119, 120, 82, 87, 115, 117] } : ByteArray)[1]'(by decide)).toNat < 128 := by decide
    simp only [bne_iff_ne, ne_eq]
    omega
  have HX := Lib.hid (idxb_none (E[1]'(by omega)) hb)
  clear hr hne
  go_enter Tryd.func19, Tryd.ntmps19
  go_wp2_with (go_at_call 49; refine (Tryd.utf8_ValidRune r _).mono ?_; rintro e w' ⟨rfl, hw⟩; rw [hw]; clear hw)
  go_step3
  go_wp2
  refine wp_loop_rounds 1 ?_
  rw [rounds_succ]
  go_wp2
  go_step3
  go_wp2
  go_quiet (fail)
  go_wp2
  go_quiet ((go_at_call 48; exact quiet_add_same (HX.out _ _ (by decide))))
  go_wp2
  rw [Exit.noGoto_ret]
  go_wp2
  rw [Exit.noGoto_ret]
  go_ret
  exact ⟨rfl, below_drewN (Below.refl _ _) _⟩

set_option maxHeartbeats 1000000 in
set_option maxRecDepth 1000000 in
theorem idx_high_3 (r : Int) (E : ByteArray) (hE : Utf8.encode r = E) (hz : E.size = 3) (hb : 128 ≤ (E[2]'(by omega)).toNat) (hr : Utf8.valid r = true) (h128 : 128 ≤ r) (hne : r ≠ 65533) (w : World) :
    Calls Tryd.prog 19 #[.string ⟨#[114, 119, 120, 82, 87, 115, 117]⟩, .int .i32 r] w fun e w' => e = .returned (.int .i64 (-1)) ∧ Below w.heap.size w w' := by
  have hv : (!Lib.validRune r) = false := by
    have := validRune_eq r
    rw [hr] at this
    simp only [Go.validRune] at this
    simp only [Lib.validRune, ← this, Bool.not_true]
  have h0 : 0 ≤ r := by omega
  have h65 : (r == 65533) = false := by simpa using hne
  have hl : ¬ r < 128 := by omega
  have hq : (((({ data := #[114, 119, 120, 82, 87, 115, 117] } : ByteArray)[2]'(by decide)).toNat : Int) != ((E[2]'(by omega)).toNat : Int)) = true := by
    have e : (({ data := #[114, 119, 120, 82, 87, 115, 117] } : ByteArray)[2]'(by decide)).toNat < 128 := by decide
    simp only [bne_iff_ne, ne_eq]
    omega
  have HX := Lib.hid (idxb_none (E[2]'(by omega)) hb)
  clear hr hne
  go_enter Tryd.func19, Tryd.ntmps19
  go_wp2_with (go_at_call 49; refine (Tryd.utf8_ValidRune r _).mono ?_; rintro e w' ⟨rfl, hw⟩; rw [hw]; clear hw)
  go_step3
  go_wp2
  refine wp_loop_rounds 1 ?_
  rw [rounds_succ]
  go_wp2
  go_step3
  go_wp2
  go_quiet (fail)
  go_wp2
  go_quiet ((go_at_call 48; exact quiet_add_same (HX.out _ _ (by decide))))
  go_wp2
  rw [Exit.noGoto_ret]
  go_wp2
  rw [Exit.noGoto_ret]
  go_ret
  exact ⟨rfl, below_drewN (Below.refl _ _) _⟩

set_option maxHeartbeats 1000000 in
set_option maxRecDepth 1000000 in
theorem idx_high_4 (r : Int) (E : ByteArray) (hE : Utf8.encode r = E) (hz : E.size = 4) (hb : 128 ≤ (E[3]'(by omega)).toNat) (hr : Utf8.valid r = true) (h128 : 128 ≤ r) (hne : r ≠ 65533) (w : World) :
    Calls Tryd.prog 19 #[.string ⟨#[114, 119, 120, 82, 87, 115, 117]⟩, .int .i32 r] w fun e w' => e = .returned (.int .i64 (-1)) ∧ Below w.heap.size w w' := by
  have hv : (!Lib.validRune r) = false := by
    have := validRune_eq r
    rw [hr] at this
    simp only [Go.validRune] at this
    simp only [Lib.validRune, ← this, Bool.not_true]
  have h0 : 0 ≤ r := by omega
  have h65 : (r == 65533) = false := by simpa using hne
  have hl : ¬ r < 128 := by omega
  have hq : (((({ data := #[114, 119, 120, 82, 87, 115, 117] } : ByteArray)[3]'(by decide)).toNat : Int) != ((E[3]'(by omega)).toNat : Int)) = true := by
    have e : (({ data := #[114, 119, 120, 82, 87, 115, 117] } : ByteArray)[3]'(by decide)).toNat < 128 := by decide
    simp only [bne_iff_ne, ne_eq]
    omega
  have HX := Lib.hid (idxb_none (E[3]'(by omega)) hb)
  clear hr hne
  go_enter Tryd.func19, Tryd.ntmps19
  go_wp2_with (go_at_call 49; refine (Tryd.utf8_ValidRune r _).mono ?_; rintro e w' ⟨rfl, hw⟩; rw [hw]; clear hw)
  go_step3
  go_wp2
  refine wp_loop_rounds 1 ?_
  rw [rounds_succ]
  go_wp2
  go_step3
  go_wp2
  go_quiet (fail)
  go_wp2
  go_quiet ((go_at_call 48; exact quiet_add_same (HX.out _ _ (by decide))))
  go_wp2
  rw [Exit.noGoto_ret]
  go_wp2
  rw [Exit.noGoto_ret]
  go_ret
  exact ⟨rfl, below_drewN (Below.refl _ _) _⟩

/-- strings.IndexRune at the signs, at every rune that a text can hold. -/
theorem idx_any (r : Int) (hr : Utf8.valid r = true) (w : World) :
    Calls Tryd.prog 19 #[.string ⟨#[114, 119, 120, 82, 87, 115, 117]⟩, .int .i32 r] w fun e w' => e = .returned (.int .i64 (signIdx r)) ∧ Below w.heap.size w w' := by
  have h0 : 0 ≤ r := by
    simp [Utf8.valid] at hr
    omega
  by_cases h1 : r < 128
  · exact (idx_ascii r h0 h1 w).mono fun e w' ⟨he, hw⟩ => ⟨he, hw ▸ Below.refl _ _⟩
  · rw [signIdx_high r (by omega)]
    by_cases h2 : r = 65533
    · subst h2; exact idx_error w
    · obtain ⟨s2, s4, hl⟩ := encode_facts r hr (by omega)
      obtain ⟨E, hE⟩ : ∃ E, Utf8.encode r = E := ⟨_, rfl⟩
      simp only [hE] at s2 s4 hl
      have hb := hl (by omega)
      have hc : E.size = 2 ∨ E.size = 3 ∨ E.size = 4 := by omega
      rcases hc with hz | hz | hz
      · exact idx_high_2 r E hE hz (by simpa only [hz] using hb) hr (by omega) h2 w
      · exact idx_high_3 r E hE hz (by simpa only [hz] using hb) hr (by omega) h2 w
      · exact idx_high_4 r E hE hz (by simpa only [hz] using hb) hr (by omega) h2 w
end Go.Proofs.YtljjdkjmciheeaaDoor.P
