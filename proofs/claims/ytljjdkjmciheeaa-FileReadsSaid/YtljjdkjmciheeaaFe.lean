/- The contract of file.Pack, by hand. -/
import Derived.Test.YtljjdkjmciheeaaFd
import Derived.Lib.SlBytesConst
import Derived.Deep.AppendLies
import Derived.Deep.RegionLaw
import Derived.Deep.RegionWith
namespace Go.Proofs.Ytljjdkjmciheeaa.P
open Go.RowKit Go.Proofs.YtljjdkjmciheeaaW.PrintWords Go.Proofs.YtljjdkjmciheeaaW.PrintLast Go.Proofs.YtljjdkjmciheeaaW.PrintMore
attribute [local go_sem] max2_int min2_int max_two min_two max_three min_three max_four min_four   -- for this text's walks alone
set_option linter.unusedVariables false
set_option linter.unusedSimpArgs false

/-! ### file_sum: function 17 -/
def file_sum.l0 : Nat → ByteArray → Int → Int → Int → Option (List Int)
  | 0, _, _, _, _ => none
  | k + 1, x0, x3, x6, x7 => if x7 < x6 then (if 0 ≤ x7 then (if x7 < (x0.size : Int) then (file_sum.l0 k x0 (wrap64 (x3 + (wrap64 (bt x0 x7)))) x6 (wrap64 (x7 + 1))) else (none)) else (none)) else (some (([(x3 / 256) % 256, (x3) % 256] : List Int)))
def file_sum.f (k : Nat) (a0 : ByteArray) : Option (List Int) := file_sum.l0 k a0 0 (a0.size : Int) 0
theorem file_sum.mono_l : ∀ k, (∀ y0 y1 y2 y3, LeO (file_sum.l0 k y0 y1 y2 y3) (file_sum.l0 (k + 1) y0 y1 y2 y3))
  | 0 => fun _ _ _ _ r h => by simp [file_sum.l0] at h
  | k + 1 => by
    have ih0 := file_sum.mono_l k
    · intro y0 y1 y2 y3
      unfold file_sum.l0
      repeat' first
      | (with_reducible exact ih0 _ _ _ _)
      | (with_reducible exact LeO.refl _)
      | (with_reducible exact LeO.none _)
      | (with_reducible refine LeO.ite ?_ ?_)
      | (with_reducible refine LeO.bind ?_ (fun _ => ?_))
      | exact ih0 _ _ _ _
      | exact LeO.none _
      | refine LeO.ite ?_ ?_
      | refine LeO.bind ?_ (fun _ => ?_)
theorem file_sum.mono : ∀ a0 k, LeO (file_sum.f k a0) (file_sum.f (k + 1) a0) := by
  intro a0 k
  have ih0 := file_sum.mono_l k
  unfold file_sum.f
  repeat' first
      | (with_reducible exact ih0 _ _ _ _)
      | (with_reducible exact LeO.refl _)
      | (with_reducible exact LeO.none _)
      | (with_reducible refine LeO.ite ?_ ?_)
      | (with_reducible refine LeO.bind ?_ (fun _ => ?_))
      | exact ih0 _ _ _ _
      | exact LeO.none _
      | refine LeO.ite ?_ ?_
      | refine LeO.bind ?_ (fun _ => ?_)
set_option maxHeartbeats 8000000 in
set_option maxRecDepth 100000 in
theorem file_sum.calls (k : Nat) (a0 : ByteArray) (r : List Int) (w : World) (h : file_sum.f k a0 = some r) :
    Calls Try.prog 17 #[.string a0] w fun e w' => ∃ v0_ : Value, e = .returned (v0_) ∧ Kd.R (Kd.int .u8) 5 w' w.heap.size (fun _ => True) v0_ r ∧ Below w.heap.size w w' := by
  have HB := Aside0.mk (Below.refl w.heap.size w)
  have H : (file_sum.l0 k a0 0 (a0.size : Int) 0) = some r := h
  clear h
  have H' := Aside0.mk H
  clear H
  go_enter Try.func17, Try.ntmps17
  go_wp2
  go_loopg [3, 7] k (fun kq v3 v7 w' => ∃ (x3_1 : Int) (x7_1 : Int), v3 = .int .i64 x3_1 ∧ v7 = .int .i64 x7_1 ∧ Aside0 (file_sum.l0 kq a0 x3_1 (a0.size : Int) x7_1 = some r) ∧ Aside0 (kq ≤ k) ∧ Aside0 (Below w.heap.size w w'))
  case atStart => exact ⟨(0), (0), (by first | rfl | (simp; done) | (simp [*]; done)), (by first | rfl | (simp; done) | (simp [*]; done)), H', ⟨Nat.le_refl _⟩, ⟨by repeat (first | (with_reducible first | exact HB.out | apply below_alloc | apply pw_below_drewN | apply below_drew1) | exact HB.out)⟩⟩
  case round =>
    clear H'
    try clear c1
    obtain ⟨x3_1, x7_1, rfl, rfl, HA, HK1, HB⟩ := hrel
    cases gk with
    | zero => exact absurd HA.out (by simp [file_sum.l0])
    | succ k1 =>
      have H := HA.out
      clear HA
      simp only [file_sum.l0] at H
      by_cases c2 : x7_1 < (a0.size : Int)
      · rw [if_pos c2] at H
        have c2b0 : decide (x7_1 < (a0.size : Int)) = true := decide_eq_true c2
        clear c2
        by_cases c3 : 0 ≤ x7_1
        · rw [if_pos c3] at H
          have c3b0 : decide (0 ≤ x7_1) = true := decide_eq_true c3
          clear c3
          by_cases c4 : x7_1 < (a0.size : Int)
          · rw [if_pos c4] at H
            have c4b0 : decide (x7_1 < (a0.size : Int)) = true := decide_eq_true c4
            clear c4
            have H' := Aside0.mk H
            clear H
            have p5 : 0 ≤ (x7_1 : Int) := of_decide_eq_true (by first | (with_reducible assumption) | assumption)
            have q5 : x7_1 < (a0.size : Int) := of_decide_eq_true (by first | (with_reducible assumption) | assumption)
            have hx5 := bt_at a0 x7_1
            replace p5 := eq_true p5
            replace q5 := eq_true q5
            go_wp2
            go_roundg k1
            case measure => have := HK1.out; omega
            case rel => exact ⟨(wrap64 (x3_1 + (wrap64 (bt a0 x7_1)))), (wrap64 (x7_1 + 1)), (by first | rfl | (simp; done) | (simp [*]; done)), (by first | rfl | (simp; done) | (simp [*]; done)), H', ⟨by have := HK1.out; omega⟩, ⟨by repeat (first | (with_reducible first | exact HB.out | apply below_alloc | apply pw_below_drewN | apply below_drew1) | exact HB.out)⟩⟩
          · rw [if_neg c4] at H
            exact absurd H (by simp)
        · rw [if_neg c3] at H
          exact absurd H (by simp)
      · rw [if_neg c2] at H
        have c2b0 : decide (x7_1 < (a0.size : Int)) = false := decide_eq_false c2
        clear c2
        obtain ⟨y101, hy101⟩ : ∃ y_ : List Int, y_ = (([(x3_1 / 256) % 256, (x3_1) % 256] : List Int)) := ⟨_, rfl⟩
        replace H : (some y101) = some r := by first | (rw [hy101]; with_reducible exact H) | (have H2_ := (Option.bind_some _ _).symm.trans H; rw [hy101]; with_reducible exact H2_) | (have H2_ := (Option.bind_some _ _).symm.trans H; with_reducible exact H2_) | with_reducible exact H | (rw [hy101]; exact H) | exact H
        have Ny101 := Aside0.mk hy101
        clear hy101
        obtain rfl := Option.some.inj H
        go_wp2_with (first | ((with_reducible refine gate_dst (N := 22) rfl ?_); refine Kd.R_lit (Kd.int .u8) _ 5 ?hg (N := 22) ?hd (xs := ([(x3_1 / 256) % 256, (x3_1) % 256] : List Int)) (inner := [.int .u8 ((x3_1 / 256) % 256), .int .u8 ((x3_1) % 256)]) (ok := fun _ => True) (okp := fun _ => True) ?hr ?hp (fun _ hk => hk) trivial (Below.refl _ _) (Nat.le_refl _) (by simp) ?_; (case hd => rfl); (case hg => rfl); (case hr => first | (go_simp; done) | (go_simp; rfl)); (case hp => exact (Reps.one (show Kd.M (Kd.int .u8) _ _ _ ((x3_1 / 256) % 256) [.int .u8 ((x3_1 / 256) % 256)] from rfl) (Reps.one (show Kd.M (Kd.int .u8) _ _ _ ((x3_1) % 256) [.int .u8 ((x3_1) % 256)] from rfl) (Reps.none _ _)))); intro v102 w6 ho7 hb hg_ hnew_; clear hg_ hnew_; (first | rw [← Ny101.out] at ho7 | (simp only [Int.reduceToNat] at ho7; rw [← Ny101.out] at ho7)); have n0_ := Aside0.mk (Kd.R_lower ho7 (below_size (by repeat (first | (with_reducible first | exact HB.out | apply below_alloc | apply pw_below_drewN | apply below_drew1) | exact HB.out)))); have n1_ := Aside0.mk (below_step (by repeat (first | (with_reducible first | exact HB.out | apply below_alloc | apply pw_below_drewN | apply below_drew1) | exact HB.out)) hb); clear HB; have HO103 := n0_; have HB := n1_; clear n0_ n1_; clear hb ho7))
        go_ret
        exact ⟨_, by first | rfl | (simp [errW_none, errW_some] <;> rfl) | (simp [*, errW_none, errW_some] <;> rfl), by (with_reducible repeat (first | apply Kd.R_alloc | apply Kd.R_drewN | apply Kd.R_drew)); exact HO103.out, by repeat (first | (with_reducible first | exact HB.out | apply below_alloc | apply pw_below_drewN | apply below_drew1) | exact HB.out)⟩


/-- P30: four bytes of a number. -/
def be4 (n : Int) : List Int := [(n + 2147483648) / 16777216 % 256, (n + 2147483648) / 65536 % 256, (n + 2147483648) / 256 % 256, (n + 2147483648) % 256]
def labB (x : S57) : List Int := [(x.f0.size : Int) % 256] ++ bytesOf x.f0 ++ [x.f1 % 256]
def impB (x : S59) : List Int := [(x.f0.size : Int) % 256] ++ bytesOf x.f0 ++ [x.f1 % 256]
def head7 (l0_0 l0_1 : List Int) (l0_2 : List S57) (l0_3 : List S59) : List Int := [67, 77, 49, (l0_0.length : Int) % 256, (l0_1.length : Int) % 256, (l0_2.length : Int) % 256, (l0_3.length : Int) % 256]

theorem pack_olds (w1 : World) (o : Obj) : ∀ b, some (⟨w1.heap.size, 0, none⟩ : Addr) = some b → ∀ j u, (nums .u8 [67, 77, 49])[j]? = some u → ((w1.alloc (.cells #[.int .u8 67, .int .u8 77, .int .u8 49] 5 (3, 4))).alloc o).cell? (b.add j) = some u := by
  intro b hb j u hj
  injection hb with hb
  subst hb
  rw [add_plain]
  refine (World.cell?_alloc_lt _ o ⟨w1.heap.size, j, none⟩ (by simp)).trans ?_
  unfold World.cell?
  rw [show (w1.alloc (.cells #[.int .u8 67, .int .u8 77, .int .u8 49] 5 (3, 4))).heap[(⟨w1.heap.size, j, none⟩ : Addr).block]? = some (.cells #[.int .u8 67, .int .u8 77, .int .u8 49] 5 (3, 4)) from heap_alloc_new w1 _]
  simpa [nums] using hj
theorem pack_news (w1 : World) (o : Obj) (a b c d : Int) : ∀ j u, (nums .u8 [a, b, c, d])[j]? = some u → ((w1.alloc o).alloc (.cells #[.int .u8 a, .int .u8 b, .int .u8 c, .int .u8 d] 5)).cell? ((⟨w1.heap.size + 1, 0, none⟩ : Addr).add j) = some u := by
  intro j u hj
  rw [add_plain]
  have e : w1.heap.size + 1 = (w1.alloc o).heap.size := by simp
  rw [e]
  unfold World.cell?
  rw [show ((w1.alloc o).alloc (.cells #[.int .u8 a, .int .u8 b, .int .u8 c, .int .u8 d] 5)).heap[(⟨(w1.alloc o).heap.size, j, none⟩ : Addr).block]? = some (.cells #[.int .u8 a, .int .u8 b, .int .u8 c, .int .u8 d] 5) from heap_alloc_new _ _]
  simpa [nums] using hj

/-- What has been written when j of the two lists are done. -/
def outN (l0_0 l0_1 : List Int) (l0_2 : List S57) (l0_3 : List S59) (j : Nat) : List Int := head7 l0_0 l0_1 l0_2 l0_3 ++ (([l0_0, l0_1].take j).flatMap fun l => l.flatMap be4)

theorem all_range (l : List Int) (h : l.all in32 = true) (i : Nat) (hi : i < l.length) : -2147483648 ≤ rd l (i : Int) ∧ rd l (i : Int) ≤ 2147483647 := by
  have e := rd_at_int l i hi
  rw [List.getElem?_eq_getElem hi] at e
  have := List.all_eq_true.1 h _ (List.getElem_mem hi)
  rw [Option.some.inj e] at this
  simpa [in32] using this
theorem take_be4 (l : List Int) (i : Nat) (hi : i < l.length) : (l.take (i + 1)).flatMap be4 = (l.take i).flatMap be4 ++ be4 (rd l (i : Int)) := by
  have e := rd_at_int l i hi
  rw [List.getElem?_eq_getElem hi] at e
  rw [List.take_succ_eq_append_getElem hi, Option.some.inj e]
  simp

theorem modCheck_sizes {l0_0 l0_1 : List Int} {l0_2 : List S57} {l0_3 : List S59} (h : modCheck l0_0 l0_1 l0_2 l0_3 = 0) : l0_0.length ≤ 120 ∧ l0_1.length ≤ 60 := by
  unfold modCheck at h
  split at h
  · cases h
  · omega
theorem be4_in (n : Int) (h0 : -2147483648 ≤ n) (h1 : n ≤ 2147483647) : be4 n = [(n + 2147483648) / 16777216, (n + 2147483648) / 65536 % 256, (n + 2147483648) / 256 % 256, (n + 2147483648) % 256] := by
  unfold be4
  rw [show (n + 2147483648) / 16777216 % 256 = (n + 2147483648) / 16777216 from by omega]
theorem own_ne {w : World} {base n : Nat} {e : TypeId} {size : Nat} {v : Value} {xs : List Value} (h : w.ownsRow base e size v n xs) {g t : Nat} {cells : Array Value} (hb : w.heap[g]? = some (.cells cells t (0, 0))) (ht : e ≠ t) : some g ≠ v.ownBlock := fun he => by
  obtain ⟨c, h1⟩ := own_typed h g he.symm
  rw [hb] at h1
  injection h1 with h1
  injection h1 with _ h1
  exact ht h1.symm
theorem five_ne : (5 : Nat) ≠ 22 := by decide
theorem below_then2 {w0 w1 w2 : World} {B : Nat} (h : Below B w0 w1) (k : Below B w1 w2) : Below B w0 w2 := h.trans k
theorem flat_be4 (l : List Int) : (l.flatMap be4).length = 4 * l.length := by
  induction l with
  | nil => rfl
  | cons x l ih => rw [List.flatMap_cons, List.length_append, ih]; simp [be4]; omega
theorem outN_len (l0_0 l0_1 : List Int) (l0_2 : List S57) (l0_3 : List S59) (j : Nat) (l : List Int) (i : Nat) (hb : l0_0.length ≤ 120 ∧ l0_1.length ≤ 60) (hl : l.length ≤ 120) :
    (outN l0_0 l0_1 l0_2 l0_3 j ++ (l.take i).flatMap be4).length ≤ 2000 := by
  have h1 : (outN l0_0 l0_1 l0_2 l0_3 j).length ≤ 7 + 4 * (120 + 60) := by
    unfold outN
    match j with
    | 0 => simp [head7]
    | 1 => simp only [List.take_succ_cons, List.take_zero, List.flatMap_cons, List.flatMap_nil, List.append_nil, List.length_append, flat_be4]; simp [head7]; omega
    | n + 2 => simp only [List.take_succ_cons, List.take_nil, List.flatMap_cons, List.flatMap_nil, List.append_nil, List.length_append, flat_be4]; simp [head7]; omega
  rw [List.length_append, flat_be4]
  have : (l.take i).length ≤ l.length := List.length_take_le' _ _
  omega

theorem take_lab (l : List S57) (i : Nat) (hi : i < l.length) : (l.take (i + 1)).flatMap labB = (l.take i).flatMap labB ++ labB (rd_T57 l (i : Int)) := by
  have e := rd_at_T57 l i hi
  rw [List.getElem?_eq_getElem hi] at e
  rw [List.take_succ_eq_append_getElem hi, Option.some.inj e]
  simp
theorem take_imp (l : List S59) (i : Nat) (hi : i < l.length) : (l.take (i + 1)).flatMap impB = (l.take i).flatMap impB ++ impB (rd_T59 l (i : Int)) := by
  have e := rd_at_T59 l i hi
  rw [List.getElem?_eq_getElem hi] at e
  rw [List.take_succ_eq_append_getElem hi, Option.some.inj e]
  simp
theorem bytes_len (s : ByteArray) : (bytesOf s).length = s.size := bytesOf_length s
theorem lab_len (l : List S57) (h : ∀ x ∈ l, x.f0.size ≤ 12) : (l.flatMap labB).length ≤ 14 * l.length := by
  induction l with
  | nil => simp
  | cons x l ih =>
    have := ih (fun y hy => h y (List.mem_cons_of_mem _ hy))
    have := h x (List.mem_cons_self)
    rw [List.flatMap_cons, List.length_append]
    simp only [labB, List.length_append, List.length_cons, List.length_nil, bytes_len]
    omega
theorem imp_len (l : List S59) (h : ∀ x ∈ l, x.f0.size ≤ 12) : (l.flatMap impB).length ≤ 14 * l.length := by
  induction l with
  | nil => simp
  | cons x l ih =>
    have := ih (fun y hy => h y (List.mem_cons_of_mem _ hy))
    have := h x (List.mem_cons_self)
    rw [List.flatMap_cons, List.length_append]
    simp only [impB, List.length_append, List.length_cons, List.length_nil, bytes_len]
    omega
theorem nameB_size {s : ByteArray} (h : nameB s = true) : s.size ≤ 12 := by
  unfold nameB at h
  simp only [Bool.and_eq_true, decide_eq_true_eq] at h
  omega
theorem exps_names (nc : Nat) : ∀ (l b : List S57), expsGo nc b l = 0 → ∀ x ∈ l, nameB x.f0 = true
  | [], _, _ => fun x hx => by cases hx
  | y :: l, b, h => fun x hx => by
    unfold expsGo at h
    split at h
    · rename_i h0
      rcases List.mem_cons.1 hx with rfl | hx
      · unfold expErr at h0
        cases hn : nameB x.f0 with
        | true => rfl
        | false => rw [if_pos hn] at h0; cases h0
      · exact exps_names nc l _ h x hx
    · rename_i h0; exact absurd h h0
theorem imps_names (nc : Nat) : ∀ (l b : List S59), impsGo nc b l = 0 → ∀ x ∈ l, nameB x.f0 = true
  | [], _, _ => fun x hx => by cases hx
  | y :: l, b, h => fun x hx => by
    unfold impsGo at h
    split at h
    · rename_i h0
      rcases List.mem_cons.1 hx with rfl | hx
      · unfold impErr at h0
        cases hn : nameB x.f0 with
        | true => rfl
        | false => rw [if_pos hn] at h0; cases h0
      · exact imps_names nc l _ h x hx
    · rename_i h0; exact absurd h h0
theorem modCheck_parts {l0_0 l0_1 : List Int} {l0_2 : List S57} {l0_3 : List S59} (h : modCheck l0_0 l0_1 l0_2 l0_3 = 0) :
    (l0_2.length ≤ 20 ∧ l0_3.length ≤ 20) ∧ (l0_0.all in32 = true ∧ l0_1.all in32 = true) ∧ (∀ x ∈ l0_2, x.f0.size ≤ 12) ∧ (∀ x ∈ l0_3, x.f0.size ≤ 12) := by
  unfold modCheck at h
  split at h
  · cases h
  · rename_i h1
    split at h
    · cases h
    · rename_i h2
      split at h
      · rename_i h3
        refine ⟨by omega, ?_, fun x hx => nameB_size (exps_names _ _ _ h3 x hx), fun x hx => nameB_size (imps_names _ _ _ h x hx)⟩
        constructor
        · cases h4 : l0_0.all in32 <;> simp_all
        · cases h4 : l0_1.all in32 <;> simp_all
      · rename_i h3; exact absurd h h3
theorem outN2_len (l0_0 l0_1 : List Int) (l0_2 : List S57) (l0_3 : List S59) (hb : l0_0.length ≤ 120 ∧ l0_1.length ≤ 60) : (outN l0_0 l0_1 l0_2 l0_3 2).length ≤ 2000 := by
  have := outN_len l0_0 l0_1 l0_2 l0_3 2 [] 0 hb (by simp)
  simpa using this
theorem labs_len (l0_0 l0_1 : List Int) (l0_2 : List S57) (l0_3 : List S59) (k : Nat) (hb : l0_0.length ≤ 120 ∧ l0_1.length ≤ 60) (hb2 : l0_2.length ≤ 20 ∧ l0_3.length ≤ 20) (hn : ∀ x ∈ l0_2, x.f0.size ≤ 12) :
    (outN l0_0 l0_1 l0_2 l0_3 2 ++ (l0_2.take k).flatMap labB).length ≤ 3000 := by
  have h1 := outN2_len l0_0 l0_1 l0_2 l0_3 hb
  have h2 := lab_len (l0_2.take k) (fun x hx => hn x (List.mem_of_mem_take hx))
  have h3 : (l0_2.take k).length ≤ l0_2.length := List.length_take_le' _ _
  rw [List.length_append]
  omega
theorem imps_len (l0_0 l0_1 : List Int) (l0_2 : List S57) (l0_3 : List S59) (k : Nat) (hb : l0_0.length ≤ 120 ∧ l0_1.length ≤ 60) (hb2 : l0_2.length ≤ 20 ∧ l0_3.length ≤ 20) (hn : ∀ x ∈ l0_2, x.f0.size ≤ 12) (hn3 : ∀ x ∈ l0_3, x.f0.size ≤ 12) :
    (outN l0_0 l0_1 l0_2 l0_3 2 ++ l0_2.flatMap labB ++ (l0_3.take k).flatMap impB).length ≤ 4000 := by
  have h1 := outN2_len l0_0 l0_1 l0_2 l0_3 hb
  have h2 := lab_len l0_2 hn
  have h4 := imp_len (l0_3.take k) (fun x hx => hn3 x (List.mem_of_mem_take hx))
  have h3 : (l0_3.take k).length ≤ l0_3.length := List.length_take_le' _ _
  rw [List.length_append, List.length_append]
  omega
theorem rd_mem57 (l : List S57) (k : Nat) (h : k < l.length) : rd_T57 l (k : Int) ∈ l := by
  have := rd_at_T57 l k h
  exact List.mem_of_getElem? this
theorem rd_mem59 (l : List S59) (k : Nat) (h : k < l.length) : rd_T59 l (k : Int) ∈ l := by
  have := rd_at_T59 l k h
  exact List.mem_of_getElem? this

theorem pack_row {w wr : World} {g : Nat} {A0_0 A0_1 : Option Addr} {c0_0 c0_1 : Nat} {l0_0 l0_1 : List Int} {l0_2 : List S57} {l0_3 : List S59} (hr0 : Kd.C (Kd.int .i64) w A0_0 l0_0.length l0_0) (hr1 : Kd.C (Kd.int .i64) w A0_1 l0_1.length l0_1)
    (hL : wr.heap[g]? = some (.cells #[.slice A0_0 l0_0.length c0_0, .slice A0_1 l0_1.length c0_1] 22)) (hb : l0_0.length ≤ 120 ∧ l0_1.length ≤ 60) (h0 : l0_0.all in32 = true) (h1 : l0_1.all in32 = true) (j : Nat) (hj : j < 2) :
    ∃ (A : Option Addr) (c : Nat) (l : List Int), wr.cell? ⟨g, j, none⟩ = some (.slice A l.length c) ∧ Aside0 (∀ W, Below w.heap.size w W → Kd.C (Kd.int .i64) W A l.length l) ∧ Aside0 (outN l0_0 l0_1 l0_2 l0_3 (j + 1) = outN l0_0 l0_1 l0_2 l0_3 j ++ l.flatMap be4) ∧ l.length ≤ 120 ∧ Aside0 (l.all in32 = true) := by
  match j, hj with
  | 0, _ => exact ⟨A0_0, c0_0, l0_0, by rw [blk_cell hL]; rfl, ⟨fun W hW => Kd.C_below hr0 hW⟩, ⟨by simp [outN]⟩, hb.1, ⟨h0⟩⟩
  | 1, _ => exact ⟨A0_1, c0_1, l0_1, by rw [blk_cell hL]; rfl, ⟨fun W hW => Kd.C_below hr1 hW⟩, ⟨by simp [outN]⟩, by omega, ⟨h1⟩⟩

/-- P30: all but the sum. -/
def packNums (l0_0 l0_1 : List Int) (l0_2 : List S57) (l0_3 : List S59) : List Int := outN l0_0 l0_1 l0_2 l0_3 2 ++ l0_2.flatMap labB ++ l0_3.flatMap impB

theorem two_cells {p q : Int} : ∀ u ∈ nums .u8 [p, q], u.oneCell' = true := by intro u hu; simp [nums] at hu; rcases hu with rfl | rfl <;> rfl
theorem sum_news {w : World} {base : Nat} {p q : Int} {g cap : Nat} (h : w.ownsRow base 5 1 (.slice (some ⟨g, 0, none⟩) [p, q].length cap) [p, q].length (encs (Value.int .u8) [p, q])) : ∀ j u, (nums .u8 [p, q])[j]? = some u → w.cell? ((⟨g, 0, none⟩ : Addr).add j) = some u := by
  intro j u hj
  exact h.cells (g := g) rfl j u (by simpa [nums, encs] using hj)
theorem below_at {B : Nat} {w w1 : World} (hB : B ≤ w.heap.size) (hb : Below w.drew.heap.size w.drew w1) : Below B w w1 :=
  below_then (B := B) (w1 := w.drew) ((Below.refl B w).drew) (by simpa using hB) hb

section
variable (A0_0 : Option Addr) (c0_0 : Nat) (l0_0 : List Int) (A0_1 : Option Addr) (c0_1 : Nat) (l0_1 : List Int) (A0_2 : Option Addr) (c0_2 : Nat) (l0_2 : List S57) (A0_3 : Option Addr) (c0_3 : Nat) (l0_3 : List S59) (w : World)
set_option maxHeartbeats 8000000 in
set_option maxRecDepth 100000 in
theorem file_Pack_good (hr0_0 : Kd.C (Kd.int .i64) w A0_0 l0_0.length l0_0) (hc0 : l0_0.length ≤ c0_0) (hr0_1 : Kd.C (Kd.int .i64) w A0_1 l0_1.length l0_1) (hc1 : l0_1.length ≤ c0_1)
    (hr0_2 : Kd.C k57 w A0_2 l0_2.length l0_2) (hc2 : l0_2.length ≤ c0_2) (hr0_3 : Kd.C k59 w A0_3 l0_3.length l0_3) (hc3 : l0_3.length ≤ c0_3)
    (h : modCheck l0_0 l0_1 l0_2 l0_3 = 0) (K : Nat) (p q : Int) (hsum : file_sum.f K (strOfNums (packNums l0_0 l0_1 l0_2 l0_3)) = some [p, q]) :
    Calls Try.prog 6 #[.agg #[.slice A0_0 l0_0.length c0_0, .slice A0_1 l0_1.length c0_1, .slice A0_2 l0_2.length c0_2, .slice A0_3 l0_3.length c0_3]] w fun e w' => e = .returned (.tuple #[.string (strOfNums (packNums l0_0 l0_1 l0_2 l0_3 ++ [p, q])), .int .i64 0]) ∧ Below w.heap.size w w' := by
  have HSum := Aside0.mk hsum
  clear hsum
  have HR0 := Aside0.mk hr0_0
  have HR1 := Aside0.mk hr0_1
  have HR2 := Aside0.mk hr0_2
  have HR3 := Aside0.mk hr0_3
  have HC := fun W (hW : Below w.heap.size w W) => Lib.hid (module_Check.calls A0_0 c0_0 l0_0 A0_1 c0_1 l0_1 A0_2 c0_2 l0_2 A0_3 c0_3 l0_3 W 0 (Kd.C_below HR0.out hW) hc0 (Kd.C_below HR1.out hW) hc1 (Kd.C_below HR2.out hW) hc2 (Kd.C_below HR3.out hW) hc3 (congrArg some h))
  have hbig := Aside0.mk (modCheck_sizes h)
  have hbig2 := Aside0.mk (modCheck_parts h).1
  have names2 := Aside0.mk (modCheck_parts h).2.2.1
  have names3 := Aside0.mk (modCheck_parts h).2.2.2
  have hall0 := Aside0.mk (modCheck_parts h).2.1.1
  have hall1 := Aside0.mk (modCheck_parts h).2.1.2
  clear h hr0_0 hr0_1 hr0_2 hr0_3
  go_enter Try.func6, Try.ntmps6
  go_wp2_with fail
  refine (HC _ ((Below.refl _ _).alloc (Nat.le_refl _) _)).out.mono ?_
  rintro e w1 ⟨rfl, hb1⟩
  have HB := Aside0.mk (box_start hb1)
  clear hb1
  have f0 := box_cell (j := 0) HB.out rfl
  have f1 := box_cell (j := 1) HB.out rfl
  have f2 := box_cell (j := 2) HB.out rfl
  have f3 := box_cell (j := 3) HB.out rfl
  have hlt1 : w.heap.size < w1.heap.size := by have := HB.out.size; simp at this; omega
  have kc := fun (w : World) (C : Array Value) (n c : Nat) => Lib.run_convert_bytes_const (P := Try.prog) w 52 5 C n c Try.underlying52 Try.underlying5
  obtain ⟨i0, hi, hz0, hz1, hz2⟩ := info_parts info5u
  go_wp2_with (at_builtin; refine wpList_append_grows _ rfl (.tmp 21) (.tmp 38) 52 rfl 5 i0 (.int .u8 0) 1 1 Try.underlying52 hi hz0 hz1 hz2 rfl (by decide) (some ⟨w1.heap.size, 0, none⟩) 3 3 (nums .u8 [67, 77, 49]) rfl (by intro h; cases h) rfl ?o1 ⟨w1.heap.size + 1, 0, none⟩ 4 4 (nums .u8 [(l0_0.length : Int) % 256, (l0_1.length : Int) % 256, (l0_2.length : Int) % 256, (l0_3.length : Int) % 256]) rfl rfl ?o2 ?o3 (by decide) (by decide) (by decide) ?_; (case o1 => exact pack_olds w1 _); (case o2 => exact pack_news w1 _ _ _ _ _); (case o3 => intro u hu; simp [nums] at hu; rcases hu with rfl | rfl | rfl | rfl <;> rfl); intro v1 w2 ho hg; obtain ⟨A1, m1, c1, rfl⟩ := own_shape ho; have HB2 := Aside0.mk (pw_below_grown ((HB.out.alloc hlt1 _).alloc (by simp; omega) _) none (by simp; omega) hg (by intro k hk; cases hk)); have HO := Aside0.mk (own_weaken (base' := w.heap.size + 1) ho (by simp; omega)); clear ho hg f0 f1 f2 f3; have f0 := box_cell (j := 0) HB2.out rfl; have f1 := box_cell (j := 1) HB2.out rfl; have hlt2 : w.heap.size < w2.heap.size := by have := HB2.out.size; simp at this; omega)
  clear kc f0 f1
  have HS : Aside0 (∃ v, BSt (w.heap.size + 1) w2.heap.size ((w2.alloc (.cells #[.slice A1 m1 c1] 52)).alloc (.cells #[.slice A0_0 l0_0.length c0_0, .slice A0_1 l0_1.length c0_1] 22)) v (head7 l0_0 l0_1 l0_2 l0_3)) :=
    ⟨_, ⟨blk_alloc (blk_new _ _) _, (HO.out.alloc _).alloc _, hlt2⟩⟩
  have HL := Aside0.mk (blk_new (w2.alloc (.cells #[.slice A1 m1 c1] 52)) (.cells #[.slice A0_0 l0_0.length c0_0, .slice A0_1 l0_1.length c0_1] 22))
  have HBa := Aside0.mk ((HB2.out.alloc hlt2 (.cells #[.slice A1 m1 c1] 52)).alloc (by simp; omega) (.cells #[.slice A0_0 l0_0.length c0_0, .slice A0_1 l0_1.length c0_1] 22))
  clear HO HB2 HB hlt1
  go_loopw [46] (fun v46 wr => ∃ j : Nat, j ≤ 2 ∧ v46 = .int .i64 j ∧ Aside0 (∃ v, BSt (w.heap.size + 1) w2.heap.size wr v (outN l0_0 l0_1 l0_2 l0_3 j)) ∧
      Aside0 (Below (w.heap.size + 1) (w.alloc (.cells #[.slice A0_0 l0_0.length c0_0, .slice A0_1 l0_1.length c0_1, .slice A0_2 l0_2.length c0_2, .slice A0_3 l0_3.length c0_3] 26)) wr) ∧
      Aside0 (wr.heap[w2.heap.size + 1]? = some (.cells #[.slice A0_0 l0_0.length c0_0, .slice A0_1 l0_1.length c0_1] 22)))
    (fun v46 _ => 2 - (intOf v46).toNat)
  case atStart => exact ⟨0, by omega, rfl, HS, HBa, ⟨by have := HL.out; simpa using this⟩⟩
  case round =>
    clear HS HL HBa
    obtain ⟨j, hj, rfl, HS, HB, HL⟩ := hrel
    by_cases hlt : j < 2
    · obtain ⟨A, c, l, hcell, hC, hnext, hl, hall⟩ : ∃ (A : Option Addr) (c : Nat) (l : List Int), wr.cell? ⟨w2.heap.size + 1, j, none⟩ = some (.slice A l.length c) ∧ Aside0 (∀ W, Below w.heap.size w W → Kd.C (Kd.int .i64) W A l.length l) ∧ Aside0 (outN l0_0 l0_1 l0_2 l0_3 (j + 1) = outN l0_0 l0_1 l0_2 l0_3 j ++ l.flatMap be4) ∧ l.length ≤ 120 ∧ Aside0 (l.all in32 = true) :=
        pack_row HR0.out HR1.out HL.out hbig.out hall0.out hall1.out j hlt
      have hp0 : (0 : Int) ≤ (j : Int) := by omega
      have hjb : decide ((j : Int) < 2) = true := by simp; omega
      go_wp2
      clear hcell
      obtain ⟨wo, rfl⟩ : ∃ wo : World, wo = wr := ⟨_, rfl⟩
      go_loopw [52] (fun v52 wr => ∃ i : Nat, i ≤ l.length ∧ v52 = .int .i64 i ∧ Aside0 (∃ v, BSt (w.heap.size + 1) w2.heap.size wr v (outN l0_0 l0_1 l0_2 l0_3 j ++ (l.take i).flatMap be4)) ∧
          Aside0 (Below (w.heap.size + 1) (w.alloc (.cells #[.slice A0_0 l0_0.length c0_0, .slice A0_1 l0_1.length c0_1, .slice A0_2 l0_2.length c0_2, .slice A0_3 l0_3.length c0_3] 26)) wr) ∧
          Aside0 (wr.heap[w2.heap.size + 1]? = some (.cells #[.slice A0_0 l0_0.length c0_0, .slice A0_1 l0_1.length c0_1] 22)))
        (fun v52 _ => l.length - (intOf v52).toNat)
      case atStart => exact ⟨0, Nat.zero_le _, rfl, ⟨by simpa using HS.out⟩, HB, HL⟩
      case round =>
        clear HS HB HL
        obtain ⟨i, hi, rfl, HS, HB, HL⟩ := hrel
        by_cases hil : i < l.length
        · have hp2 : (0 : Int) ≤ (i : Int) := by omega
          have hp1 : (i : Int) < (l.length : Int) := by omega
          obtain ⟨ad, e0, hx0⟩ := Kd.at_int (hC.out _ (box_old HB.out)) (i : Int) hp2 hp1
          subst e0
          simp only [Int.toNat_natCast] at hx0
          have hrg := all_range l hall.out i hil
          have hn0 := hrg.1
          have hn1 := hrg.2
          have HN := Aside0.mk (take_be4 l i hil)
          clear hrg
          generalize rd l (i : Int) = n at hx0 hn0 hn1 HN
          obtain ⟨v, hv⟩ := HS.out
          have HV := Aside0.mk hv
          have hcb := blk_cell hv.cell 0
          simp at hcb
          clear hv HS
          have hsz := HV.out.size
          have hbd := outN_len l0_0 l0_1 l0_2 l0_3 j l i hbig.out hl
          have HE := Aside0.mk (be4_in n hn0 hn1)
          go_wp2_with (at_builtin; go_loud (refine print_append_row (w0 := wr) (w.heap.size + 1) rfl (.tmp 58) (.tmp 70) 52 5 .u8 1 rfl Try.underlying52 info5u (by decide) v (outN l0_0 l0_1 l0_2 l0_3 j ++ (l.take i).flatMap be4) [(n + 2147483648) / 16777216, (n + 2147483648) / 65536 % 256, (n + 2147483648) / 256 % 256, (n + 2147483648) % 256] _ 4 4 rfl rfl (HV.out.own.alloc _) (lit_reads wr 5 [(n + 2147483648) / 16777216, (n + 2147483648) / 65536 % 256, (n + 2147483648) / 256 % 256, (n + 2147483648) % 256] (show (4 : Nat) ≤ 1000 from by decide)) ((Below.refl _ _).alloc hsz _) ?p1 ?p2 ?_; (case p1 => simp; omega); (case p2 => omega); intro v3 w3 ho hb hg _; obtain ⟨A3, m3, c3, rfl⟩ := own_shape ho; have HO3 := Aside0.mk ho; have HB3 := Aside0.mk hb; have HC3 := Aside0.mk (HV.out.cell_lit _ hg); have HL3 := Aside0.mk (blk_grown (blk_alloc HL.out _) hg (own_ne HV.out.own HL.out five_ne)); clear ho hb hg; have hz3 := blk_cell HC3.out 0; have hfz3 := blk_frozen HC3.out 0; simp at hz3))
          go_roundw
          case rel => exact ⟨i + 1, by omega, by go_num, ⟨_, by rw [HN.out, HE.out, ← List.append_assoc]; exact BSt.put HC3.out HO3.out HV.out.le⟩, ⟨below_then2 HB.out (HB3.out.setCell HV.out.le _)⟩, ⟨blk_far HL3.out (by simp) _⟩⟩
          case measure => simp [intOf]; omega
        · go_wp2
          go_roundw
          case rel => exact ⟨j + 1, by omega, by go_num, by rw [hnext.out]; obtain ⟨v, hv⟩ := HS.out; exact ⟨v, by rw [List.take_of_length_le (by omega)] at hv; exact hv⟩, HB, HL⟩
          case measure => simp [intOf]; omega
    · obtain rfl : j = 2 := by omega
      rw [show ((2 : Nat) : Int) = 2 from rfl]
      have f2 := box_cell (j := 2) HB.out rfl
      go_wp2
      clear f2 HL
      obtain ⟨wo, rfl⟩ : ∃ wo : World, wo = wr := ⟨_, rfl⟩
      go_loopw [78] (fun v78 wr => ∃ k : Nat, k ≤ l0_2.length ∧ v78 = .int .i64 k ∧ Aside0 (∃ v, BSt (w.heap.size + 1) w2.heap.size wr v (outN l0_0 l0_1 l0_2 l0_3 2 ++ (l0_2.take k).flatMap labB)) ∧
          Aside0 (Below (w.heap.size + 1) (w.alloc (.cells #[.slice A0_0 l0_0.length c0_0, .slice A0_1 l0_1.length c0_1, .slice A0_2 l0_2.length c0_2, .slice A0_3 l0_3.length c0_3] 26)) wr))
        (fun v78 _ => l0_2.length - (intOf v78).toNat)
      case atStart => exact ⟨0, Nat.zero_le _, rfl, ⟨by simpa using HS.out⟩, HB⟩
      case round =>
        clear HS HB
        obtain ⟨k, hk, rfl, HS, HB⟩ := hrel
        by_cases hlt2 : k < l0_2.length
        · have hp0 : (0 : Int) ≤ (k : Int) := by omega
          have hp1 : (k : Int) < (l0_2.length : Int) := by omega
          obtain ⟨ad, e0, hx0, hx1⟩ := at_T57 (Kd.C_below HR2.out (box_old HB.out)) (k : Int) hp0 hp1
          subst e0
          simp only [Int.toNat_natCast] at hx0 hx1
          have hbl := hbig2.out.1
          have HN := Aside0.mk (take_lab l0_2 k hlt2)
          have hnm := names2.out _ (rd_mem57 l0_2 k hlt2)
          generalize rd_T57 l0_2 (k : Int) = x at hx0 hx1 HN hnm
          obtain ⟨v, hv⟩ := HS.out
          have hbd := labs_len l0_0 l0_1 l0_2 l0_3 k hbig.out hbig2.out names2.out
          have HC1 := Lib.hid (name_any x.f0 x.f1 (w.heap.size + 1) w2.heap.size (wr.alloc (.cells #[.string x.f0, .int .i64 x.f1] 57)) v _ ⟨blk_alloc hv.cell _, hv.own.alloc _, hv.le⟩ (by omega))
          have hsz := hv.size
          clear hv HS hbd
          go_wp2_with (go_at_call 16; refine HC1.out.mono ?_; rintro e w3 ⟨rfl, hs3, hb3⟩; have HS3 := Aside0.mk hs3; have HB3 := Aside0.mk (below_then2 (HB.out.alloc hsz _) hb3); clear hs3 hb3)
          go_roundw
          case rel => exact ⟨k + 1, by omega, by go_num, ⟨by rw [HN.out, labB, ← List.append_assoc, ← List.append_assoc, ← List.append_assoc]; exact HS3.out⟩, HB3⟩
          case measure => simp [intOf]; omega
        · obtain rfl : k = l0_2.length := by omega
          rw [List.take_length] at HS
          have f3 := box_cell (j := 3) HB.out rfl
          go_wp2
          clear f3
          obtain ⟨wo, rfl⟩ : ∃ wo : World, wo = wr := ⟨_, rfl⟩
          go_loopw [92] (fun v92 wr => ∃ k : Nat, k ≤ l0_3.length ∧ v92 = .int .i64 k ∧ Aside0 (∃ v, BSt (w.heap.size + 1) w2.heap.size wr v (outN l0_0 l0_1 l0_2 l0_3 2 ++ l0_2.flatMap labB ++ (l0_3.take k).flatMap impB)) ∧
              Aside0 (Below (w.heap.size + 1) (w.alloc (.cells #[.slice A0_0 l0_0.length c0_0, .slice A0_1 l0_1.length c0_1, .slice A0_2 l0_2.length c0_2, .slice A0_3 l0_3.length c0_3] 26)) wr))
            (fun v92 _ => l0_3.length - (intOf v92).toNat)
          case atStart => exact ⟨0, Nat.zero_le _, rfl, ⟨by simpa using HS.out⟩, HB⟩
          case round =>
            clear HS HB
            obtain ⟨k, hk, rfl, HS, HB⟩ := hrel
            by_cases hlt3 : k < l0_3.length
            · have hp0 : (0 : Int) ≤ (k : Int) := by omega
              have hp1 : (k : Int) < (l0_3.length : Int) := by omega
              obtain ⟨ad, e0, hx0, hx1⟩ := at_T59 (Kd.C_below HR3.out (box_old HB.out)) (k : Int) hp0 hp1
              subst e0
              simp only [Int.toNat_natCast] at hx0 hx1
              have hbl := hbig2.out.2
              have HN := Aside0.mk (take_imp l0_3 k hlt3)
              have hnm := names3.out _ (rd_mem59 l0_3 k hlt3)
              generalize rd_T59 l0_3 (k : Int) = x at hx0 hx1 HN hnm
              obtain ⟨v, hv⟩ := HS.out
              have hbd := imps_len l0_0 l0_1 l0_2 l0_3 k hbig.out hbig2.out names2.out names3.out
              have HC1 := Lib.hid (name_any x.f0 x.f1 (w.heap.size + 1) w2.heap.size (wr.alloc (.cells #[.string x.f0, .int .i64 x.f1] 59)) v _ ⟨blk_alloc hv.cell _, hv.own.alloc _, hv.le⟩ (by omega))
              have hsz := hv.size
              clear hv HS hbd
              go_wp2_with (go_at_call 16; refine HC1.out.mono ?_; rintro e w3 ⟨rfl, hs3, hb3⟩; have HS3 := Aside0.mk hs3; have HB3 := Aside0.mk (below_then2 (HB.out.alloc hsz _) hb3); clear hs3 hb3)
              go_roundw
              case rel => exact ⟨k + 1, by omega, by go_num, ⟨by rw [HN.out, impB, ← List.append_assoc, ← List.append_assoc, ← List.append_assoc]; exact HS3.out⟩, HB3⟩
              case measure => simp [intOf]; omega
            · obtain rfl : k = l0_3.length := by omega
              rw [List.take_length] at HS
              have hbd := imps_len l0_0 l0_1 l0_2 l0_3 l0_3.length hbig.out hbig2.out names2.out names3.out
              rw [List.take_length] at hbd
              change Aside0 (∃ v, BSt (w.heap.size + 1) w2.heap.size wr v (packNums l0_0 l0_1 l0_2 l0_3)) at HS
              change (packNums l0_0 l0_1 l0_2 l0_3).length ≤ 4000 at hbd
              obtain ⟨xs, hxs⟩ : ∃ xs, packNums l0_0 l0_1 l0_2 l0_3 = xs := ⟨_, rfl⟩
              rw [hxs] at HS HSum hbd
              have HXS := Aside0.mk hxs
              clear hxs
              obtain ⟨v, hv⟩ := HS.out
              obtain ⟨A9, m9, c9, rfl⟩ := own_shape hv.own
              have HV := Aside0.mk hv
              have hcb := blk_cell hv.cell 0
              simp at hcb
              have hcv := fun (W : World) (h : W.ownsRow (w.heap.size + 1) 5 1 (.slice A9 m9 c9) xs.length (nums .u8 xs)) => own_string (P := Try.prog) Try.underlying52 Try.underlying5 Try.underlying9 h
              have hsz := hv.size
              have hcv1 := hcv wr.drew (pw_own_below hv.own (Below.refl _ _).drew)
              clear hv HS
              obtain ⟨i1, hi1, hy0, hy1, hy2⟩ := info_parts info5u
              go_wp2
              go_region_law (first
                | (refine step_append_lies _ rfl (.tmp 103) (.tmp 106) 52 rfl (w.heap.size + 1) 5 i1 (.int .u8 0) 1 1 Try.underlying52 hi1 hy0 hy1 hy2 rfl (by decide) (.slice A9 m9 c9) xs.length (nums .u8 xs) rfl HO3.out ⟨g0, 0, none⟩ 2 cap0 (nums .u8 [p, q]) rfl rfl HN3.out two_cells (by decide) (by unfold maxLen; omega) (by omega) hsz3 _ rfl ?_; intro g9 cap9 w9 ho9 hg9 _ _; have HO9 := Aside0.mk ho9; have HB9 := Aside0.mk (pw_below_grown HB3.out _ hsz3 hg9 (own_base HO3.out)); have hcv9 := own_string (P := Try.prog) Try.underlying52 Try.underlying5 Try.underlying9 (by rw [← nums_append] at ho9; exact ho9); clear ho9 hg9)
                | (go_simp; go_at_call 17; refine (file_sum.calls K (strOfNums xs) [p, q] _ HSum.out).mono ?_; rintro e w3 ⟨v0, rfl, hr3, hb3⟩; obtain ⟨g0, cap0, rfl, hg0⟩ := (Kd.own_of_R hr3).form (by simp); have HN3 := Aside0.mk (sum_news (Kd.own_of_R hr3)); have HO3 := Aside0.mk (pw_own_below (pw_own_below HV.out.own (Below.refl _ _).drew) hb3); have HB3 := Aside0.mk (below_then2 HB.out (below_at hsz hb3)); have hsz3 : w.heap.size + 1 ≤ w3.heap.size := (by have := hb3.size; simp at this; omega); have hcb3 := blk_cell (blk_below (blk_drew HV.out.cell) hb3) 0; simp at hcb3; clear hb3 hr3 hg0))
              all_goals go_wp2
              all_goals go_ret2
              all_goals exact ⟨by simp [Act.put, HXS.out], box_old HB9.out⟩
end

end Go.Proofs.Ytljjdkjmciheeaa.P
