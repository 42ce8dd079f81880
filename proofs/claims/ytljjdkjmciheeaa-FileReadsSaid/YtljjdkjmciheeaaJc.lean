/- Plain lemmas: the reference's FilePack comes to what the program's Pack comes to; the law FilePacks. -/
import Derived.Test.YtljjdkjmciheeaaJb
import Derived.Shelf.Spec.RuneCount
namespace Go.Proofs.Ytljjdkjmciheeaa.P
open Go.RowKit Go.Proofs.YtljjdkjmciheeaaW.PrintWords Go.Proofs.YtljjdkjmciheeaaW.PrintLast Go.Proofs.YtljjdkjmciheeaaW.PrintMore
set_option linter.unusedVariables false

theorem str_app (xs ys : List Int) : strOfNums (xs ++ ys) = strOfNums xs ++ strOfNums ys := by
  apply ByteArray.ext
  simp [strOfNums]
theorem str_bytes (s : ByteArray) : strOfNums (bytesOf s) = s := by
  unfold bytesOf
  exact strOfNums_bytes s
theorem chr_is (n : Int) : custodianref_chr.f n = some (strOfNums [n % 256]) := rfl

/-- The bytes of a number, the highest first. -/
def hiN (n : Int) : Nat → List Int
  | 0 => []
  | m + 1 => hiN (n / 256) m ++ [n % 256]
theorem hiN_len (n : Int) : ∀ m, (hiN n m).length = m
  | 0 => rfl
  | m + 1 => by rw [hiN, List.length_append, hiN_len (n / 256) m]; rfl
theorem high_is : ∀ (m : Nat) (n : Int), m ≤ 1000 → 0 ≤ n → n ≤ 4611686018427387904 → Ev (fun k => custodianref_High.f k n (m : Int)) (strOfNums (hiN n m))
  | 0, n, hm, h0, h1 => by
    refine Ev.step (fun k => by simp only [custodianref_High.f]; rw [if_pos (by rfl)]) ?_
    exact Ev.now _
  | m + 1, n, hm, h0, h1 => by
    have ih := high_is m (n / 256) (by omega) (by omega) (by omega)
    have e1 : wrap64 (Int.tdiv n 256) = n / 256 := by rw [Int.tdiv_eq_ediv_of_nonneg h0]; unfold wrap64; omega
    have e2 : wrap64 (((m + 1 : Nat) : Int) - 1) = (m : Int) := by unfold wrap64; omega
    have e3 : Int.tmod n 256 = n % 256 := Int.tmod_eq_emod_of_nonneg h0
    refine Ev.step (fun k => by simp only [custodianref_High.f]; rw [if_neg (by omega), e1, e2, e3, chr_is]) ?_
    refine Ev.bind ih ?_
    refine Ev.congr (fun k => by rw [Option.bind_some, if_pos (by rw [strOfNums_size, strOfNums_size, hiN_len]; simp; omega)]) ?_
    rw [hiN, str_app, Int.emod_emod_of_dvd n (by decide : (256 : Int) ∣ 256)]
    exact Ev.now _
theorem hi_be4 (n : Int) : hiN (n + 2147483648) 4 = be4 n := by
  simp only [hiN, be4, List.nil_append, List.cons_append]
  rw [show (n + 2147483648) / 256 / 256 / 256 = (n + 2147483648) / 16777216 from by omega, show (n + 2147483648) / 256 / 256 = (n + 2147483648) / 65536 from by omega]

theorem sumOf_go (s : ByteArray) (hs : s.size ≤ 1000000) : ∀ (d i : Nat), i + d = s.size → Ev (fun k => custodianref_sumOf.l0 k s ((bytesOf s).take i).sum (s.size : Int) (i : Int)) (sumB s)
  | 0, i, hi => by
    have : ((bytesOf s).take i) = bytesOf s := List.take_of_length_le (by rw [bytesOf_length]; omega)
    refine Ev.step (fun k => by simp only [custodianref_sumOf.l0]; rw [if_neg (by omega), this]) ?_
    exact Ev.now _
  | d + 1, i, hi => by
    have ih := sumOf_go s hs d (i + 1) (by omega)
    have hb := bt_range s (i : Int)
    have hn := sum_bound s i (by omega)
    have e1 : wrap64 (((bytesOf s).take i).sum + wrap64 (bt s (i : Int))) = ((bytesOf s).take (i + 1)).sum := by
      rw [sum_take s i (by omega)]
      unfold wrap64
      omega
    have e2 : wrap64 ((i : Int) + 1) = ((i + 1 : Nat) : Int) := by unfold wrap64; omega
    refine Ev.step (fun k => by simp only [custodianref_sumOf.l0]; rw [if_pos (by omega), if_pos (by omega), if_pos (by omega), e1, e2]) ?_
    exact ih
theorem sumOf_is (s : ByteArray) (hs : s.size ≤ 1000000) : Ev (fun k => custodianref_sumOf.f k s) (sumB s) := by
  have := sumOf_go s hs s.size 0 (by omega)
  simpa [custodianref_sumOf.f] using this
theorem sumB_range (s : ByteArray) (hs : s.size ≤ 1000000) : 0 ≤ sumB s ∧ sumB s ≤ 255000000 := by
  have := sum_bound s s.size (Nat.le_refl _)
  rw [List.take_of_length_le (by rw [bytesOf_length]; exact Nat.le_refl _)] at this
  unfold sumB
  omega

theorem labB_str (x : S57) : strOfNums (labB x) = (strOfNums [(x.f0.size : Int) % 256] ++ x.f0) ++ strOfNums [x.f1 % 256] := by
  unfold labB
  rw [str_app, str_app, str_bytes]
theorem impB_str (x : S59) : strOfNums (impB x) = (strOfNums [(x.f0.size : Int) % 256] ++ x.f0) ++ strOfNums [x.f1 % 256] := by
  unfold impB
  rw [str_app, str_app, str_bytes]

theorem fp_end (s : ByteArray) (hs : s.size ≤ 1000000) (l3 : List S59) (n : Int) (h : ¬ n < (l3.length : Int)) :
    Ev (fun k => custodianref_FilePack.l2 k s l3 (l3.length : Int) n) (s ++ strOfNums [(sumB s / 256) % 256, sumB s % 256], 0) := by
  have hr := sumB_range s hs
  have e : Int.tmod (sumB s) 65536 = sumB s % 65536 := Int.tmod_eq_emod_of_nonneg hr.1
  refine Ev.step (fun k => by simp only [custodianref_FilePack.l2]; rw [if_neg h]) ?_
  refine Ev.bind (sumOf_is s hs) ?_
  rw [e]
  refine Ev.bind (high_is 2 (sumB s % 65536) (by omega) (by omega) (by omega)) ?_
  have e2 : hiN (sumB s % 65536) 2 = [(sumB s / 256) % 256, sumB s % 256] := by
    simp only [hiN, List.nil_append, List.cons_append]
    rw [show sumB s % 65536 / 256 % 256 = sumB s / 256 % 256 by omega, show sumB s % 65536 % 256 = sumB s % 256 by omega]
  rw [e2]
  refine Ev.congr (fun k => by rw [if_pos (by rw [strOfNums_size]; simp; omega)]) ?_
  exact Ev.now _
theorem fp_imps (l3 : List S59) (h3 : l3.length ≤ 20) (hn : ∀ x ∈ l3, x.f0.size ≤ 12) (b : List Int) (hb : b.length ≤ 10000) : ∀ (d i : Nat), i + d = l3.length →
    Ev (fun k => custodianref_FilePack.l2 k (strOfNums (b ++ (l3.take i).flatMap impB)) l3 (l3.length : Int) (i : Int)) (strOfNums (b ++ l3.flatMap impB ++ [(sumB (strOfNums (b ++ l3.flatMap impB)) / 256) % 256, sumB (strOfNums (b ++ l3.flatMap impB)) % 256]), 0)
  | 0, i, hi => by
    rw [List.take_of_length_le (by omega), str_app (b ++ l3.flatMap impB)]
    have := imp_len l3 hn
    exact fp_end _ (by rw [strOfNums_size, List.length_append]; omega) l3 _ (by omega)
  | d + 1, i, hi => by
    have hlt : i < l3.length := by omega
    have ih := fp_imps l3 h3 hn b hb d (i + 1) (by omega)
    have hw := wrap_next i l3.length hlt (by omega)
    have hx := hn _ (rd_mem59 l3 i hlt)
    have hl := imp_len (l3.take i) (fun x hx => hn x (List.mem_of_mem_take hx))
    have hl2 : (l3.take i).length ≤ l3.length := List.length_take_le' _ _
    rw [take_imp l3 i hlt] at ih
    generalize hxx : rd_T59 l3 (i : Int) = x at ih hx
    refine Ev.step (fun k => by simp only [custodianref_FilePack.l2]; rw [if_pos (by omega), if_pos (by omega), if_pos (by omega), hw, hxx, chr_is, Option.bind_some, if_pos (by rw [strOfNums_size]; simp; omega), chr_is, Option.bind_some, if_pos (by simp [strOfNums_size]; omega), if_pos (by rw [ByteArray.size_append, ByteArray.size_append, strOfNums_size, strOfNums_size, strOfNums_size, List.length_append]; simp only [List.length_cons, List.length_nil]; omega), ← impB_str, ← str_app]) ?_
    rw [List.append_assoc] 
    exact ih
theorem fp_labs (l0 l1 : List Int) (l2 : List S57) (l3 : List S59) (h2 : l2.length ≤ 20) (h3 : l3.length ≤ 20) (hn2 : ∀ x ∈ l2, x.f0.size ≤ 12) (hn : ∀ x ∈ l3, x.f0.size ≤ 12) (b : List Int) (hb : b.length ≤ 5000) : ∀ (d i : Nat), i + d = l2.length →
    Ev (fun k => custodianref_FilePack.l1 k (strOfNums (b ++ (l2.take i).flatMap labB)) l2 (l2.length : Int) (i : Int) l0 l1 l2 l3) (strOfNums (b ++ l2.flatMap labB ++ l3.flatMap impB ++ [(sumB (strOfNums (b ++ l2.flatMap labB ++ l3.flatMap impB)) / 256) % 256, sumB (strOfNums (b ++ l2.flatMap labB ++ l3.flatMap impB)) % 256]), 0)
  | 0, i, hi => by
    rw [List.take_of_length_le (by omega)]
    refine Ev.step (fun k => by simp only [custodianref_FilePack.l1]; rw [if_neg (by omega)]) ?_
    have hl := lab_len l2 hn2
    have := fp_imps l3 h3 hn (b ++ l2.flatMap labB) (by rw [List.length_append]; omega) l3.length 0 (by omega)
    simpa using this
  | d + 1, i, hi => by
    have hlt : i < l2.length := by omega
    have ih := fp_labs l0 l1 l2 l3 h2 h3 hn2 hn b hb d (i + 1) (by omega)
    have hw := wrap_next i l2.length hlt (by omega)
    have hx := hn2 _ (rd_mem57 l2 i hlt)
    have hl := lab_len (l2.take i) (fun x hx => hn2 x (List.mem_of_mem_take hx))
    have hl2 : (l2.take i).length ≤ l2.length := List.length_take_le' _ _
    rw [take_lab l2 i hlt] at ih
    generalize hxx : rd_T57 l2 (i : Int) = x at ih hx
    refine Ev.step (fun k => by simp only [custodianref_FilePack.l1]; rw [if_pos (by omega), if_pos (by omega), if_pos (by omega), hw, hxx, chr_is, Option.bind_some, if_pos (by rw [strOfNums_size]; simp; omega), chr_is, Option.bind_some, if_pos (by simp [strOfNums_size]; omega), if_pos (by rw [ByteArray.size_append, ByteArray.size_append, strOfNums_size, strOfNums_size, strOfNums_size, List.length_append]; simp only [List.length_cons, List.length_nil]; omega), ← labB_str, ← str_app]) ?_
    rw [List.append_assoc]
    exact ih
theorem fp_nums (l0 l1 : List Int) (l2 : List S57) (l3 : List S59) (h2 : l2.length ≤ 20) (h3 : l3.length ≤ 20) (hn2 : ∀ x ∈ l2, x.f0.size ≤ 12) (hn : ∀ x ∈ l3, x.f0.size ≤ 12) (b : List Int) (hb : b.length ≤ 10) (l : List Int) (hl : l.length ≤ 1000) (hal : l.all in32 = true) : ∀ (d i : Nat), i + d = l.length →
    Ev (fun k => custodianref_FilePack.l0 k (strOfNums (b ++ (l.take i).flatMap be4)) l (l.length : Int) (i : Int) l0 l1 l2 l3) (strOfNums (b ++ l.flatMap be4 ++ l2.flatMap labB ++ l3.flatMap impB ++ [(sumB (strOfNums (b ++ l.flatMap be4 ++ l2.flatMap labB ++ l3.flatMap impB)) / 256) % 256, sumB (strOfNums (b ++ l.flatMap be4 ++ l2.flatMap labB ++ l3.flatMap impB)) % 256]), 0)
  | 0, i, hi => by
    rw [List.take_of_length_le (by omega)]
    refine Ev.step (fun k => by simp only [custodianref_FilePack.l0]; rw [if_neg (by omega)]) ?_
    have := fp_labs l0 l1 l2 l3 h2 h3 hn2 hn (b ++ l.flatMap be4) (by rw [List.length_append, flat_be4]; omega) l2.length 0 (by omega)
    simpa using this
  | d + 1, i, hi => by
    have hlt : i < l.length := by omega
    have ih := fp_nums l0 l1 l2 l3 h2 h3 hn2 hn b hb l hl hal d (i + 1) (by omega)
    have hw := wrap_next i l.length hlt (by omega)
    have hx := all_range l hal i hlt
    have hl2 : (l.take i).length ≤ l.length := List.length_take_le' _ _
    rw [take_be4 l i hlt] at ih
    generalize hxx : rd l (i : Int) = x at ih hx
    have hw2 : wrap64 (x + 2147483648) = x + 2147483648 := by unfold wrap64; omega
    refine Ev.step (fun k => by simp only [custodianref_FilePack.l0]; rw [if_pos (by omega), if_pos (by omega), if_pos (by omega), hw, hxx, hw2]) ?_
    refine Ev.bind (high_is 4 (x + 2147483648) (by omega) (by omega) (by omega)) ?_
    rw [hi_be4]
    refine Ev.congr (fun k => by rw [if_pos (by rw [strOfNums_size, strOfNums_size, List.length_append, flat_be4]; simp [be4]; omega), ← str_app]) ?_
    rw [List.append_assoc]
    exact ih

theorem filePack_is (l0 l1 : List Int) (l2 : List S57) (l3 : List S59) : Ev (fun k => custodianref_FilePack.f k l0 l1 l2 l3) (if modCheck l0 l1 l2 l3 = 0 then (packB l0 l1 l2 l3, 0) else (⟨#[]⟩, modCheck l0 l1 l2 l3)) := by
  unfold custodianref_FilePack.f
  refine Ev.bind (modCheck_is l0 l1 l2 l3) ?_
  by_cases h : modCheck l0 l1 l2 l3 = 0
  · rw [if_pos h]
    have hp := modCheck_parts h
    have hs := modCheck_sizes h
    have hc : custodianref_Copy_int.f l0 = some l0 := by unfold custodianref_Copy_int.f; rw [if_pos (by omega)]
    have hh : ((((⟨#[67, 77, 49]⟩ : ByteArray) ++ strOfNums [(l0.length : Int) % 256]) ++ strOfNums [(l1.length : Int) % 256]) ++ strOfNums [(l2.length : Int) % 256]) ++ strOfNums [(l3.length : Int) % 256] = strOfNums (head7 l0 l1 l2 l3 ++ ((l0 ++ l1).take 0).flatMap be4) := by
      have e : (⟨#[67, 77, 49]⟩ : ByteArray) = strOfNums [67, 77, 49] := rfl
      rw [e, ← str_app, ← str_app, ← str_app, ← str_app]
      simp [head7]
    refine Ev.congr (fun k => by rw [if_pos h, chr_is, Option.bind_some, if_pos (by rw [strOfNums_size]; simp), chr_is, Option.bind_some, if_pos (by simp [strOfNums_size, lit_size]), chr_is, Option.bind_some, if_pos (by simp [strOfNums_size, lit_size]), chr_is, Option.bind_some, if_pos (by simp [strOfNums_size, lit_size]), hc, Option.bind_some, if_pos (by omega), Option.bind_some, hh]) ?_
    have := fp_nums l0 l1 l2 l3 hp.1.1 hp.1.2 hp.2.2.1 hp.2.2.2 (head7 l0 l1 l2 l3) (by simp [head7]) (l0 ++ l1) (by rw [List.length_append]; omega) (by rw [List.all_append, hp.2.1.1, hp.2.1.2]; rfl) (l0 ++ l1).length 0 (by omega)
    have e2 : head7 l0 l1 l2 l3 ++ (l0 ++ l1).flatMap be4 ++ l2.flatMap labB ++ l3.flatMap impB = packNums l0 l1 l2 l3 := by
      simp [packNums, outN]
    rw [e2] at this
    exact this
  · refine Ev.congr (fun k => by rw [if_neg h]) ?_
    rw [if_neg h]
    exact Ev.now _

end Go.Proofs.Ytljjdkjmciheeaa.P
