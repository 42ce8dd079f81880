/- perm.Text and perm.Read. -/
import Derived.Test.YtljjdkjmciheeaaDoorPm
namespace Go.Proofs.YtljjdkjmciheeaaDoor.P
open Go.RowKit Go.Lib

theorem signs_ascii : ∀ c ∈ (⟨#[114, 119, 120, 82, 87, 115, 117]⟩ : ByteArray).data.toList, c.toNat < 128 := by decide
theorem signs_map (p : Int) (h0 : 0 ≤ p) (h1 : p ≤ 127) (b : Nat) (w : World) (hb : b < w.heap.size) (hc : w.cell? ⟨b, 0, none⟩ = some (.int .i64 p)) :
    Calls Tryd.prog 17 #[.func (.func 18) #[] #[.pointer (some ⟨b, 0, none⟩)], .string ⟨#[114, 119, 120, 82, 87, 115, 117]⟩] w fun e w' => e = .returned (.string ⟨(kept p).toArray⟩) ∧ Below w.heap.size w w' :=
  map_keep #[.pointer (some ⟨b, 0, none⟩)] (keepB p) _ (by decide) signs_ascii w
    (fun W c hm hbw => sign_any p h0 h1 c hm b W ((hbw.cell (p := ⟨b, 0, none⟩) hb).trans hc))

set_option maxHeartbeats 1000000 in
set_option maxRecDepth 100000 in
theorem ptext_in (p : Int) (h0 : 0 ≤ p) (h1 : p ≤ 127) (w : World) :
    Calls Tryd.prog 7 #[.int .i64 p] w fun e w' => e = .returned (.tuple #[.string (permText p), .int .i64 0]) ∧ Below w.heap.size w w' := by
  have hB : Below w.heap.size w (w.alloc (.cells #[.int .i64 p] 3)) := (Below.refl _ _).alloc (Nat.le_refl _) _
  by_cases he : kept p = []
  · have hr : permText p = ⟨#[45]⟩ := by unfold permText; rw [if_pos he]
    have hi : (kept p).isEmpty = true := by rw [he]; rfl
    have HR := Lib.hid hr
    clear he hr
    go_enter Tryd.func7, Tryd.ntmps7
    go_wp2_with fail
    refine (signs_map p h0 h1 w.heap.size _ (by simp) (by simp)).mono ?_
    rintro e w' ⟨rfl, hb⟩
    go_wp2
    go_ret2
    exact ⟨by rw [HR.out]; rfl, hB.trans (hb.mono hB.size)⟩
  · have hr : permText p = ⟨(kept p).toArray⟩ := by unfold permText; rw [if_neg he]
    have hi : (kept p).isEmpty = false := by simpa using he
    have HR := Lib.hid hr
    clear he hr
    go_enter Tryd.func7, Tryd.ntmps7
    go_wp2_with fail
    refine (signs_map p h0 h1 w.heap.size _ (by simp) (by simp)).mono ?_
    rintro e w' ⟨rfl, hb⟩
    go_wp2
    go_ret2
    exact ⟨by rw [HR.out]; rfl, hB.trans (hb.mono hB.size)⟩

set_option maxRecDepth 100000 in
theorem ptext_out (p : Int) (h : p < 0 ∨ 127 < p) (w : World) :
    Calls Tryd.prog 7 #[.int .i64 p] w fun e w' => e = .returned (.tuple #[.string ⟨#[]⟩, .int .i64 1]) ∧ Below w.heap.size w w' := by
  by_cases hn : p < 0
  · clear h
    go_enter Tryd.func7, Tryd.ntmps7
    go_wp2
    go_ret2
    exact ⟨rfl, (Below.refl _ _).alloc (Nat.le_refl _) _⟩
  · have hp : 127 < p := by omega
    clear h
    go_enter Tryd.func7, Tryd.ntmps7
    go_wp2
    go_ret2
    exact ⟨rfl, (Below.refl _ _).alloc (Nat.le_refl _) _⟩

/-- What the program's Read gathers: the bits of the signs that are met. -/
def gather (s : ByteArray) : Nat → Nat → Int → Int
  | 0, _, acc => acc
  | f + 1, pos, acc => if pos < s.size then gather s f (pos + (Utf8.decode s pos).2) (if 0 ≤ signIdx (Utf8.decode s pos).1 then bits .or .i64 acc (2 ^ (signIdx (Utf8.decode s pos).1).toNat) else acc) else acc

theorem signIdx_le (r : Int) : signIdx r ≤ 6 ∧ -1 ≤ signIdx r := by unfold signIdx; repeat' split
                                                                    all_goals omega

theorem decode_valid (s : ByteArray) (pos : Nat) : Utf8.valid ((Utf8.decode s pos).1 : Int) = true := by
  have hv : ∀ n : Nat, n < 2048 → Utf8.valid (n : Int) = true := by
    intro n hn
    simp [Utf8.valid]; omega
  have he : Utf8.valid ((Utf8.runeError : Nat) : Int) = true := by decide
  unfold Utf8.decode
  simp only
  split
  · exact hv _ (by omega)
  · split
    · split
      · exact hv _ (by omega)
      · exact he
    · split
      · split
        · simp_all
        · exact he
      · split
        · split
          · simp_all
          · exact he
        · exact he

theorem or_bd_fin : ∀ a : Fin 128, ∀ d ∈ ([1, 2, 4, 8, 16, 32, 64] : List Int), 0 ≤ bits .or .i64 (a.val : Int) d ∧ bits .or .i64 (a.val : Int) d ≤ 127 := by decide +kernel
theorem or_bd (a : Int) (h0 : 0 ≤ a) (h1 : a ≤ 127) (d : Int) (hd : d ∈ ([1, 2, 4, 8, 16, 32, 64] : List Int)) : 0 ≤ bits .or .i64 a d ∧ bits .or .i64 a d ≤ 127 := by
  have h := or_bd_fin ⟨a.toNat, by omega⟩ d hd
  have e : ((a.toNat : Nat) : Int) = a := by omega
  simp only [e] at h
  exact h
theorem gather_back : ∀ k : Fin 128, gather (permText (k.val : Int)) (permText (k.val : Int)).size 0 0 = (k.val : Int) := by decide +kernel

set_option maxHeartbeats 2000000 in
set_option maxRecDepth 100000 in
theorem pread_any (s : ByteArray) (hs : s.size ≤ 140737488355328) (w : World) :
    Calls Tryd.prog 9 #[.string s] w fun e w' => PermReadPost s e ∧ Below w.heap.size w w' := by
  obtain ⟨G, hG⟩ : ∃ G, gather s s.size 0 0 = G := ⟨_, rfl⟩
  have HG := Lib.hid hG
  clear hG
  go_enter Tryd.func9, Tryd.ntmps9
  go_wp2
  go_loopg [4, 6, 7, 12, 13, 14, 15, 16, 17, 18, 19, 20, 21, 22] s.size (fun gk s4 _ _ _ _ _ _ _ _ _ _ _ _ _ wx => ∃ (pos : Nat) (acc : Int), s4 = .int .i64 acc ∧ 0 ≤ acc ∧ acc ≤ 127 ∧ Hid (gather s gk pos acc = G) ∧ wx.heap[w.heap.size]? = some (.stringIter s pos) ∧ Below w.heap.size w wx ∧ s.size ≤ pos + gk ∧ pos ≤ s.size)
  case atStart => exact ⟨0, 0, rfl, by omega, by omega, HG, World.iter_heap w _ 0, (Below.refl _ w).alloc (Nat.le_refl _) _, by omega, by omega⟩
  case round =>
    obtain ⟨pos, acc, rfl, ha0, ha1, hg, hit, hbw, hfu, hps⟩ := hrel
    by_cases hlt : pos < s.size
    · obtain ⟨g', rfl⟩ : ∃ g', gk = g' + 1 := ⟨gk - 1, by omega⟩
      have hnx : ∀ ty, (Instr.next (.pointer (some ⟨w.heap.size, 0, none⟩)) true ty).run Tryd.prog wr = _ := fun ty => Lib.run_next_any_at wr w.heap.size _ pos ty hit hlt
      have hvl := decode_valid s pos
      have hwd := Lib.width_pos s pos
      have hwn : pos + (Utf8.decode s pos).2 ≤ s.size := by
        have hne : s.data.toList.drop pos ≠ [] := by
          intro h0
          have := congrArg List.length h0
          rw [List.length_drop, ← Lib.size_eq] at this
          simp at this
          omega
        have := Lib.decodeL_le _ hne
        rw [Lib.decodeL_drop, List.length_drop, ← Lib.size_eq] at this
        omega
      have hg2 : gather s g' (pos + (Utf8.decode s pos).2) (if 0 ≤ signIdx (Utf8.decode s pos).1 then bits .or .i64 acc (2 ^ (signIdx (Utf8.decode s pos).1).toNat) else acc) = G := by
        rw [← hg.out, gather, if_pos hlt]
      obtain ⟨R, hR⟩ : ∃ R, (Utf8.decode s pos).1 = R := ⟨_, rfl⟩
      obtain ⟨K, hK⟩ : ∃ K, (Utf8.decode s pos).2 = K := ⟨_, rfl⟩
      simp only [hR, hK] at hnx hvl hwd hwn hg2
      have hit2 := Lib.iterAt_heap wr w.heap.size s pos (pos + K) hit
      have hbw2 := Lib.below_iterAt hbw (k := w.heap.size) (Nat.le_refl _) s (pos + K)
      have cI := idx_any (R : Int) hvl
      have hsl := signIdx_le (R : Int)
      obtain ⟨S, hS⟩ : ∃ S, signIdx (R : Int) = S := ⟨_, rfl⟩
      rw [hS] at cI hsl hg2
      clear hS hR hK hit hg hbw hvl
      have CI := Lib.hid cI
      clear cI
      have hc : S = -1 ∨ S = 0 ∨ S = 1 ∨ S = 2 ∨ S = 3 ∨ S = 4 ∨ S = 5 ∨ S = 6 := by omega
      rcases hc with rfl | rfl | rfl | rfl | rfl | rfl | rfl | rfl
      · have HG2 : Hid (gather s g' (pos + K) acc = G) := hg2
        clear hg2
        go_wp2_with (go_at_call 19; refine (CI.out _).mono ?_; rintro e W' ⟨rfl, hb⟩)
        go_roundg g'
        case measure => omega
        case rel => exact ⟨pos + K, acc, rfl, ha0, ha1, HG2, (hb.block _ (Array.getElem?_eq_some_iff.1 hit2).1).trans hit2, hbw2.trans (hb.mono hbw2.size), by omega, hwn⟩
      · have HG2 : Hid (gather s g' (pos + K) (bits .or .i64 acc 1) = G) := hg2
        obtain ⟨hb0, hb1⟩ := or_bd acc ha0 ha1 1 (by simp)
        clear hg2
        go_wp2_with (go_at_call 19; refine (CI.out _).mono ?_; rintro e W' ⟨rfl, hb⟩)
        go_roundg g'
        case measure => omega
        case rel => exact ⟨pos + K, _, rfl, hb0, hb1, HG2, (hb.block _ (Array.getElem?_eq_some_iff.1 hit2).1).trans hit2, hbw2.trans (hb.mono hbw2.size), by omega, hwn⟩
      · have HG2 : Hid (gather s g' (pos + K) (bits .or .i64 acc 2) = G) := hg2
        obtain ⟨hb0, hb1⟩ := or_bd acc ha0 ha1 2 (by simp)
        clear hg2
        go_wp2_with (go_at_call 19; refine (CI.out _).mono ?_; rintro e W' ⟨rfl, hb⟩)
        go_roundg g'
        case measure => omega
        case rel => exact ⟨pos + K, _, rfl, hb0, hb1, HG2, (hb.block _ (Array.getElem?_eq_some_iff.1 hit2).1).trans hit2, hbw2.trans (hb.mono hbw2.size), by omega, hwn⟩
      · have HG2 : Hid (gather s g' (pos + K) (bits .or .i64 acc 4) = G) := hg2
        obtain ⟨hb0, hb1⟩ := or_bd acc ha0 ha1 4 (by simp)
        clear hg2
        go_wp2_with (go_at_call 19; refine (CI.out _).mono ?_; rintro e W' ⟨rfl, hb⟩)
        go_roundg g'
        case measure => omega
        case rel => exact ⟨pos + K, _, rfl, hb0, hb1, HG2, (hb.block _ (Array.getElem?_eq_some_iff.1 hit2).1).trans hit2, hbw2.trans (hb.mono hbw2.size), by omega, hwn⟩
      · have HG2 : Hid (gather s g' (pos + K) (bits .or .i64 acc 8) = G) := hg2
        obtain ⟨hb0, hb1⟩ := or_bd acc ha0 ha1 8 (by simp)
        clear hg2
        go_wp2_with (go_at_call 19; refine (CI.out _).mono ?_; rintro e W' ⟨rfl, hb⟩)
        go_roundg g'
        case measure => omega
        case rel => exact ⟨pos + K, _, rfl, hb0, hb1, HG2, (hb.block _ (Array.getElem?_eq_some_iff.1 hit2).1).trans hit2, hbw2.trans (hb.mono hbw2.size), by omega, hwn⟩
      · have HG2 : Hid (gather s g' (pos + K) (bits .or .i64 acc 16) = G) := hg2
        obtain ⟨hb0, hb1⟩ := or_bd acc ha0 ha1 16 (by simp)
        clear hg2
        go_wp2_with (go_at_call 19; refine (CI.out _).mono ?_; rintro e W' ⟨rfl, hb⟩)
        go_roundg g'
        case measure => omega
        case rel => exact ⟨pos + K, _, rfl, hb0, hb1, HG2, (hb.block _ (Array.getElem?_eq_some_iff.1 hit2).1).trans hit2, hbw2.trans (hb.mono hbw2.size), by omega, hwn⟩
      · have HG2 : Hid (gather s g' (pos + K) (bits .or .i64 acc 32) = G) := hg2
        obtain ⟨hb0, hb1⟩ := or_bd acc ha0 ha1 32 (by simp)
        clear hg2
        go_wp2_with (go_at_call 19; refine (CI.out _).mono ?_; rintro e W' ⟨rfl, hb⟩)
        go_roundg g'
        case measure => omega
        case rel => exact ⟨pos + K, _, rfl, hb0, hb1, HG2, (hb.block _ (Array.getElem?_eq_some_iff.1 hit2).1).trans hit2, hbw2.trans (hb.mono hbw2.size), by omega, hwn⟩
      · have HG2 : Hid (gather s g' (pos + K) (bits .or .i64 acc 64) = G) := hg2
        obtain ⟨hb0, hb1⟩ := or_bd acc ha0 ha1 64 (by simp)
        clear hg2
        go_wp2_with (go_at_call 19; refine (CI.out _).mono ?_; rintro e W' ⟨rfl, hb⟩)
        go_roundg g'
        case measure => omega
        case rel => exact ⟨pos + K, _, rfl, hb0, hb1, HG2, (hb.block _ (Array.getElem?_eq_some_iff.1 hit2).1).trans hit2, hbw2.trans (hb.mono hbw2.size), by omega, hwn⟩
    · obtain rfl : pos = s.size := by omega
      have hnx : ∀ ty, (Instr.next (.pointer (some ⟨w.heap.size, 0, none⟩)) true ty).run Tryd.prog wr = _ := fun ty => Lib.run_next_end_at wr w.heap.size s s.size ty hit hlt
      have hG : acc = G := by
        rw [← hg.out]
        cases gk with
        | zero => rfl
        | succ g => rw [gather, if_neg hlt]
      have HG3 := Lib.hid hG
      clear hG hg
      go_wp2_with (go_at_call 7; refine (ptext_in acc ha0 ha1 _).mono ?_; rintro e W' ⟨rfl, hb⟩)
      · have he : (!(permText acc).toList == s.toList) = true := by assumption
        have hne : permText acc ≠ s := by
          intro h
          rw [h] at he
          simp at he
        go_ret2
        refine ⟨.inr ⟨?_, rfl⟩, hbw.trans (hb.mono hbw.size)⟩
        intro q hq hqs
        have hgb := gather_back ⟨q, hq⟩
        simp only [hqs, HG.out] at hgb
        apply hne
        rw [HG3.out, hgb, hqs]
      · have he : (!(permText acc).toList == s.toList) = false := by assumption
        have heq : permText acc = s := toList_eq (by simpa using he)
        go_ret2
        refine ⟨.inl ⟨acc.toNat, by omega, ?_, ?_, ?_⟩, hbw.trans (hb.mono hbw.size)⟩
        · rw [← heq]; congr 1; omega
        · intro q hq hqs
          have hgb := gather_back ⟨q, by omega⟩
          simp only [hqs, HG.out] at hgb
          have := HG3.out
          omega
        · show Ending.returned (.tuple #[.int .i64 acc, .int .i64 0]) = _
          have : ((acc.toNat : Nat) : Int) = acc := by omega
          rw [this]
end Go.Proofs.YtljjdkjmciheeaaDoor.P
