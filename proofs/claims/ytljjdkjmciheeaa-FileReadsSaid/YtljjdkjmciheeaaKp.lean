/- The plain law of FileReads: both parsers give back what was packed. -/
import Derived.Test.YtljjdkjmciheeaaKc
import Derived.Test.YtljjdkjmciheeaaPy4
import Derived.Lib.EndianBits
namespace Go.Proofs.Ytljjdkjmciheeaa.P
open Go.RowKit Go.Proofs.YtljjdkjmciheeaaW.PrintWords Go.Proofs.YtljjdkjmciheeaaW.PrintLast Go.Proofs.YtljjdkjmciheeaaW.PrintMore
set_option linter.unusedVariables false

theorem ext_left (a b : ByteArray) : (a ++ b).extract 0 a.size = a := by
  apply ByteArray.ext
  simp [ByteArray.data_extract, ByteArray.data_append]
theorem arr_right (x y : Array UInt8) : (x ++ y).extract x.size (x.size + y.size) = y := by
  rw [Array.extract_append]
  simp
theorem ext_right (a b : ByteArray) : (a ++ b).extract a.size (a ++ b).size = b := by
  apply ByteArray.ext
  rw [ByteArray.data_extract, ByteArray.data_append, ByteArray.size_append]
  exact arr_right a.data b.data
theorem takeT_app (a b : ByteArray) (n : Int) (hn : n = (a.size : Int)) : takeT n (a ++ b) = a := by
  unfold takeT
  rw [if_neg (by rw [hn, ByteArray.size_append]; omega), hn, Int.toNat_natCast]
  exact ext_left a b
theorem takeL_app (a b : ByteArray) (n : Int) (hn : n = (a.size : Int)) : takeL n (a ++ b) = b := by
  unfold takeL
  rw [if_neg (by rw [hn, ByteArray.size_append]; omega), hn, Int.toNat_natCast]
  exact ext_right a b
theorem bytes_str (l : List Int) (h : ∀ x ∈ l, 0 ≤ x ∧ x < 256) : bytesOf (strOfNums l) = l := by
  unfold bytesOf strOfNums
  simp
  conv => rhs; rw [← List.map_id l]
  apply List.map_congr_left
  intro x hx
  have := h x hx
  simp
  omega
theorem deep_be4 (n : Int) (h : in32 n = true) : deepB (strOfNums (be4 n)) = n + 2147483648 := by
  simp [in32] at h
  unfold deepB
  rw [bytes_str _ (by intro x hx; simp [be4] at hx; omega)]
  simp [deepL, be4]
  omega
theorem deep_one (n : Int) (h : 0 ≤ n ∧ n < 256) : deepB (strOfNums [n]) = n := by
  unfold deepB
  rw [bytes_str _ (by intro x hx; simp at hx; omega)]
  simp [deepL]
theorem be4_size (n : Int) : (strOfNums (be4 n)).size = 4 := by rw [strOfNums_size]; rfl
theorem one_size (n : Int) : (strOfNums [n]).size = 1 := by rw [strOfNums_size]; rfl

/-! The reference's parser on what was packed. -/
/-- numsR reads the numbers that stand at the front. -/
theorem numsR_ok (rest : ByteArray) : ∀ (l0 l : List Int), l.all in32 = true → ∀ (n : Nat) (s : ByteArray), numsR n s = (l0, strOfNums (l.flatMap be4) ++ rest) → numsR (n + l.length) s = (l0 ++ l, rest)
  | l0, [], _, n, s, h => by
    have h : numsR n s = (l0, rest) := by rw [h]; congr 1
    rw [List.append_nil]
    exact h
  | l0, x :: l, hl, n, s, h => by
    simp only [List.all_cons, Bool.and_eq_true] at hl
    have h1 : numsR (n + 1) s = (l0 ++ [x], strOfNums (l.flatMap be4) ++ rest) := by
      simp only [numsR, h]
      rw [List.flatMap_cons, str_app, ByteArray.append_assoc, takeT_app _ _ 4 (by rw [be4_size]; rfl), takeL_app _ _ 4 (by rw [be4_size]; rfl), deep_be4 x hl.1]
      have : x + 2147483648 - 2147483648 = x := by omega
      rw [this]
    have := numsR_ok rest (l0 ++ [x]) l hl.2 (n + 1) s h1
    rw [List.length_cons, show n + (l.length + 1) = n + 1 + l.length from by omega, this, List.append_assoc]
    rfl
/-- A name that may be packed. -/
def okName (f0 : ByteArray) (f1 : Int) : Prop := f0.size ≤ 12 ∧ 0 ≤ f1 ∧ f1 < 256
theorem nameR_ok (f0 : ByteArray) (f1 : Int) (h : okName f0 f1) (rest : ByteArray) : nameR (strOfNums ([(f0.size : Int) % 256] ++ bytesOf f0 ++ [f1 % 256]) ++ rest) = (f0, f1, rest) := by
  obtain ⟨h0, h1, h2⟩ := h
  rw [str_app, str_app, str_bytes, ByteArray.append_assoc, ByteArray.append_assoc, Int.emod_eq_of_lt (by omega) (by omega), Int.emod_eq_of_lt h1 h2]
  unfold nameR
  simp only []
  rw [takeT_app _ _ 1 (by rw [one_size]; rfl), takeL_app _ _ 1 (by rw [one_size]; rfl), deep_one _ (by omega), takeT_app _ _ _ rfl, takeL_app _ _ _ rfl, takeT_app _ _ 1 (by rw [one_size]; rfl), takeL_app _ _ 1 (by rw [one_size]; rfl), deep_one _ ⟨h1, h2⟩]
theorem labsR_ok (rest : ByteArray) : ∀ (l0 l : List S57), (∀ x ∈ l, okName x.f0 x.f1) → ∀ (n : Nat) (s : ByteArray), labsR n s = (l0, strOfNums (l.flatMap labB) ++ rest) → labsR (n + l.length) s = (l0 ++ l, rest)
  | l0, [], _, n, s, h => by
    have h : labsR n s = (l0, rest) := by rw [h]; congr 1
    rw [List.append_nil]
    exact h
  | l0, x :: l, hl, n, s, h => by
    have h1 : labsR (n + 1) s = (l0 ++ [x], strOfNums (l.flatMap labB) ++ rest) := by
      simp only [labsR, h]
      rw [List.flatMap_cons, str_app, ByteArray.append_assoc, labB, nameR_ok _ _ (hl x List.mem_cons_self)]
    have := labsR_ok rest (l0 ++ [x]) l (fun y hy => hl y (List.mem_cons_of_mem _ hy)) (n + 1) s h1
    rw [List.length_cons, show n + (l.length + 1) = n + 1 + l.length from by omega, this, List.append_assoc]
    rfl
theorem impsR_ok (rest : ByteArray) : ∀ (l0 l : List S59), (∀ x ∈ l, okName x.f0 x.f1) → ∀ (n : Nat) (s : ByteArray), impsR n s = (l0, strOfNums (l.flatMap impB) ++ rest) → impsR (n + l.length) s = (l0 ++ l, rest)
  | l0, [], _, n, s, h => by
    have h : impsR n s = (l0, rest) := by rw [h]; congr 1
    rw [List.append_nil]
    exact h
  | l0, x :: l, hl, n, s, h => by
    have h1 : impsR (n + 1) s = (l0 ++ [x], strOfNums (l.flatMap impB) ++ rest) := by
      simp only [impsR, h]
      rw [List.flatMap_cons, str_app, ByteArray.append_assoc, impB, nameR_ok _ _ (hl x List.mem_cons_self)]
    have := impsR_ok rest (l0 ++ [x]) l (fun y hy => hl y (List.mem_cons_of_mem _ hy)) (n + 1) s h1
    rw [List.length_cons, show n + (l.length + 1) = n + 1 + l.length from by omega, this, List.append_assoc]
    rfl

/-! The program's own parser. -/
def cutN (s : ByteArray) : ByteArray := if s.size = 0 then s.extract 0 s.size else s.extract 1 s.size
def fN : Nat → Int → ByteArray → Int × ByteArray
  | 0, v, s => (v, s)
  | d + 1, v, s => fN d (if s.size = 0 then 256 * v else 256 * v + bt s 0) (cutN s)
theorem or_byte (v b : Int) (hv : 0 ≤ v) (hv1 : v < 16777216) (hb : 0 ≤ b) (hb1 : b < 256) : Go.bits .or .i64 (256 * v) b = 256 * v + b :=
  bits_join .i64 62 (by decide) (fun n h0 h1 => IntWalk.i64_in n (by omega)) 8 (256 * v) b (by omega) (by omega) (by omega) hb hb1 (by omega)
theorem text_at (s : ByteArray) (m : Nat) (n : Int) (hn : 0 ≤ n) (hm : mn n (s.size : Int) = (m : Int)) (hle : m ≤ s.size) : file_reader_text.f s n = some (s.extract 0 m, s.extract m s.size) := by
  unfold file_reader_text.f
  rw [hm, if_pos (by omega), if_pos (by omega), Int.toNat_natCast]
theorem number_go (n : Nat) (hn : n ≤ 4) : ∀ (d i : Nat) (v : Int) (s : ByteArray), i + d = n → 0 ≤ v → v < 256 ^ i → Ev (fun k => file_reader_number.l0 k v (n : Int) (i : Int) s) (fN d v s)
  | 0, i, v, s, hi, h0, h1 => by
    refine Ev.step (fun k => by simp only [file_reader_number.l0]; rw [if_neg (by omega)]) ?_
    exact Ev.now _
  | d + 1, i, v, s, hi, h0, h1 => by
    have hp : (256 : Int) ^ i ≤ 16777216 := by
      have : i ≤ 3 := by omega
      match i, this with
      | 0, _ => decide
      | 1, _ => decide
      | 2, _ => decide
      | 3, _ => decide
    have hp2 : (256 : Int) ^ (i + 1) = 256 * 256 ^ i := by rw [Int.pow_succ]; omega
    have e2 : wrap64 ((i : Int) + 1) = ((i + 1 : Nat) : Int) := by unfold wrap64; omega
    have e3 : wrap64 (v * 256) = 256 * v := by unfold wrap64; omega
    have hb := bt_range s 0
    by_cases hs : s.size = 0
    · have ht : file_reader_text.f s 1 = some (s.extract 0 0, cutN s) := by
        rw [text_at s 0 1 (by decide) (by unfold mn; rw [if_pos (by omega)]; omega) (by omega)]
        unfold cutN
        rw [if_pos hs]
      have he0 : (s.extract 0 0).toList = ([] : List UInt8) := by rw [ByteArray.toList_eq]; simp
      have ih := number_go n hn d (i + 1) (256 * v) (cutN s) (by omega) (by omega) (by rw [hp2]; omega)
      refine Ev.step (fun k => by simp only [file_reader_number.l0]; rw [if_pos (by omega), ht, Option.bind_some, if_pos he0, e2, e3]) ?_
      simp only [fN]
      rw [if_pos hs]
      exact ih
    · have ht : file_reader_text.f s 1 = some (s.extract 0 1, cutN s) := by
        rw [text_at s 1 1 (by decide) (by unfold mn; rw [if_neg (by omega)]; rfl) (by omega)]
        unfold cutN
        rw [if_neg hs]
      have ih := number_go n hn d (i + 1) (256 * v + bt s 0) (cutN s) (by omega) (by omega) (by rw [hp2]; omega)
      have hz : (s.extract 0 1).size = 1 := by simp; omega
      have hb0 : bt (s.extract 0 1) 0 = bt s 0 := by
        unfold bt
        have q : (0 : Int).toNat < (s.extract 0 1).size := by rw [hz]; decide
        have q2 : (0 : Int).toNat < s.size := by simp; omega
        rw [dif_pos q, dif_pos q2]
        simp [ByteArray.getElem_eq_getElem_data]
      have hne : ¬ (s.extract 0 1).toList = ([] : List UInt8) := by
        rw [ByteArray.toList_eq]
        intro h
        have : (s.extract 0 1).data.toList.length = 0 := by rw [h]; rfl
        rw [Array.length_toList] at this
        have h2 : (s.extract 0 1).size = (s.extract 0 1).data.size := rfl
        omega
      have e4 : wrap64 (bt s 0) = bt s 0 := by unfold wrap64; omega
      refine Ev.step (fun k => by simp only [file_reader_number.l0]; rw [if_pos (by omega), ht, Option.bind_some, if_neg hne, if_pos (by rw [hz]; decide), hb0, e2, e3, e4, or_byte v _ h0 (by omega) hb.1 (by omega)]) ?_
      simp only [fN]
      rw [if_neg hs]
      exact ih

end Go.Proofs.Ytljjdkjmciheeaa.P
