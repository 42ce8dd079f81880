/- The contract of module.Check, by hand. -/
import Derived.Test.YtljjdkjmciheeaaFb
namespace Go.Proofs.Ytljjdkjmciheeaa.P
open Go.RowKit Go.Proofs.YtljjdkjmciheeaaW.PrintWords Go.Proofs.YtljjdkjmciheeaaW.PrintLast Go.Proofs.YtljjdkjmciheeaaW.PrintMore
open Go.Shelf Go.Lib
set_option linter.unusedVariables false

theorem check1_any (y : S57) (B : Nat) (t : ByteArray) (w : World) (hc : w.cell? ⟨B, 0, none⟩ = some (.string t)) :
    Calls Try.prog 49 #[.agg #[.string y.f0, .int .i64 y.f1], .pointer (some ⟨B, 0, none⟩)] w fun e w' => e = .returned (.bool (y.f0.toList == t.toList)) ∧ Below w.heap.size w w' := by
  have hc2 : (w.alloc (.cells #[.string y.f0, .int .i64 y.f1] 57)).cell? ⟨B, 0, none⟩ = some (.string t) := pw_cell_below ((Below.refl _ _).alloc (Nat.le_refl _) _) hc
  go_enter Try.func49, Try.ntmps49
  go_wp2
  go_ret
  exact ⟨rfl, (Below.refl _ _).alloc (Nat.le_refl _) _⟩

/-- Less than two cells apart, as the program reckons. -/
def near (n m : Int) : Bool := decide (max (wrap64 (n - m)) (wrap64 (m - n)) < 2)
theorem check2_any (y : S59) (B : Nat) (n : Int) (w : World) (hc : w.cell? ⟨B, 1, none⟩ = some (.int .i64 n)) :
    Calls Try.prog 51 #[.agg #[.string y.f0, .int .i64 y.f1], .pointer (some ⟨B, 0, none⟩)] w fun e w' => e = .returned (.bool (near n y.f1)) ∧ Below w.heap.size w w' := by
  have hc2 : (w.alloc (.cells #[.string y.f0, .int .i64 y.f1] 59)).cell? ⟨B, 1, none⟩ = some (.int .i64 n) := pw_cell_below ((Below.refl _ _).alloc (Nat.le_refl _) _) hc
  go_enter Try.func51, Try.ntmps51
  go_wp2
  go_ret
  exact ⟨rfl, (Below.refl _ _).alloc (Nat.le_refl _) _⟩

/-- P28: what is wrong with an export, behind others. -/
def expErr (nc : Nat) (before : List S57) (x : S57) : Int :=
  if nameB x.f0 = false then 3 else if (before.any fun y => y.f0.toList == x.f0.toList) = true then 8 else if x.f1 < 0 then 13 else if (nc : Int) ≤ x.f1 then 13 else 0
def expsGo (nc : Nat) : List S57 → List S57 → Int
  | _, [] => 0
  | b, x :: r => if expErr nc b x = 0 then expsGo nc (b ++ [x]) r else expErr nc b x
/-- P28: what is wrong with an import, behind others. -/
def impErr (nd : Nat) (before : List S59) (x : S59) : Int :=
  if nameB x.f0 = false then 3 else if x.f1 < 0 then 13 else if (nd : Int) - 2 < x.f1 then 13 else if (before.any fun y => near x.f1 y.f1) = true then 8 else 0
def impsGo (nd : Nat) : List S59 → List S59 → Int
  | _, [] => 0
  | b, x :: r => if impErr nd b x = 0 then impsGo nd (b ++ [x]) r else impErr nd b x
theorem expsGo_at (nc : Nat) (l : List S57) (k : Nat) (h : k < l.length) : expsGo nc (l.take k) (l.drop k) = if expErr nc (l.take k) (rd_T57 l (k : Int)) = 0 then expsGo nc (l.take (k + 1)) (l.drop (k + 1)) else expErr nc (l.take k) (rd_T57 l (k : Int)) := by
  have e := rd_at_T57 l k h
  rw [List.getElem?_eq_getElem h] at e
  rw [List.drop_eq_getElem_cons h, expsGo, Option.some.inj e, List.take_succ_eq_append_getElem h, Option.some.inj e]
theorem impsGo_at (nd : Nat) (l : List S59) (k : Nat) (h : k < l.length) : impsGo nd (l.take k) (l.drop k) = if impErr nd (l.take k) (rd_T59 l (k : Int)) = 0 then impsGo nd (l.take (k + 1)) (l.drop (k + 1)) else impErr nd (l.take k) (rd_T59 l (k : Int)) := by
  have e := rd_at_T59 l k h
  rw [List.getElem?_eq_getElem h] at e
  rw [List.drop_eq_getElem_cons h, impsGo, Option.some.inj e, List.take_succ_eq_append_getElem h, Option.some.inj e]
/-- P28. -/
def modCheck (code data : List Int) (exps : List S57) (imps : List S59) : Int :=
  if 120 < code.length ∨ 60 < data.length ∨ 20 < exps.length ∨ 20 < imps.length then 2
  else if code.all in32 = false ∨ data.all in32 = false then 1
  else if expsGo code.length [] exps = 0 then impsGo data.length [] imps else expsGo code.length [] exps
def module_Check.f (l0_0 l0_1 : List Int) (l0_2 : List S57) (l0_3 : List S59) : Option Int := some (modCheck l0_0 l0_1 l0_2 l0_3)

/-- A block of the call's own, later. -/
theorem box_cell {w W : World} {cs : Array Value} {t j : Nat} {v : Value} (h : Below (w.heap.size + 1) (w.alloc (.cells cs t)) W) (hv : cs[j]? = some v) : W.cell? ⟨w.heap.size, j, none⟩ = some v := by
  rw [h.cell (p := ⟨w.heap.size, j, none⟩) (by simp)]
  simpa using hv
theorem box_later {w W W1 : World} {o : Obj} (h : Below (w.heap.size + 1) (w.alloc o) W) (h1 : Below W.heap.size W W1) : Below (w.heap.size + 1) (w.alloc o) W1 :=
  below_then h (by have := h.size; simpa using this) h1
theorem box_start {w W : World} {o : Obj} (h : Below (w.alloc o).heap.size (w.alloc o) W) : Below (w.heap.size + 1) (w.alloc o) W := by simpa using h
theorem box_old {w W : World} {o : Obj} (h : Below (w.heap.size + 1) (w.alloc o) W) : Below w.heap.size w W :=
  below_then ((Below.refl _ _).alloc (Nat.le_refl _) o) (by simp) ⟨h.os, h.tape, h.output, h.size, fun i hi => h.block i (by simpa using hi)⟩

section
variable (A0_0 : Option Addr) (c0_0 : Nat) (l0_0 : List Int) (A0_1 : Option Addr) (c0_1 : Nat) (l0_1 : List Int) (A0_2 : Option Addr) (c0_2 : Nat) (l0_2 : List S57) (A0_3 : Option Addr) (c0_3 : Nat) (l0_3 : List S59) (w : World)
set_option maxHeartbeats 2000000 in
/-- Too large, or no numbers of 32 bits. -/
theorem module_Check_large (hr0_0 : Kd.C (Kd.int .i64) w A0_0 l0_0.length l0_0) (hr0_1 : Kd.C (Kd.int .i64) w A0_1 l0_1.length l0_1)
    (h : 120 < l0_0.length ∨ 60 < l0_1.length ∨ 20 < l0_2.length ∨ 20 < l0_3.length) :
    Calls Try.prog 15 #[.agg #[.slice A0_0 l0_0.length c0_0, .slice A0_1 l0_1.length c0_1, .slice A0_2 l0_2.length c0_2, .slice A0_3 l0_3.length c0_3]] w fun e w' => e = .returned (.int .i64 2) ∧ Below w.heap.size w w' := by
  by_cases h1 : (120 : Int) < (l0_0.length : Int)
  · clear h
    go_enter Try.func15, Try.ntmps15
    go_wp2
    go_ret
    exact ⟨rfl, (Below.refl _ _).alloc (Nat.le_refl _) _⟩
  · by_cases h2 : (60 : Int) < (l0_1.length : Int)
    · clear h
      go_enter Try.func15, Try.ntmps15
      go_wp2
      go_ret
      exact ⟨rfl, (Below.refl _ _).alloc (Nat.le_refl _) _⟩
    · by_cases h3 : (20 : Int) < (l0_2.length : Int)
      · clear h
        go_enter Try.func15, Try.ntmps15
        go_wp2
        go_ret
        exact ⟨rfl, (Below.refl _ _).alloc (Nat.le_refl _) _⟩
      · have h4 : (20 : Int) < (l0_3.length : Int) := by omega
        clear h
        go_enter Try.func15, Try.ntmps15
        go_wp2
        go_ret
        exact ⟨rfl, (Below.refl _ _).alloc (Nat.le_refl _) _⟩
set_option maxHeartbeats 2000000 in
theorem module_Check_numbers (hr0_0 : Kd.C (Kd.int .i64) w A0_0 l0_0.length l0_0) (hc0 : l0_0.length ≤ c0_0) (hr0_1 : Kd.C (Kd.int .i64) w A0_1 l0_1.length l0_1) (hc1 : l0_1.length ≤ c0_1)
    (h : ¬ (120 < l0_0.length ∨ 60 < l0_1.length ∨ 20 < l0_2.length ∨ 20 < l0_3.length)) (hn : l0_0.all in32 = false ∨ l0_1.all in32 = false) :
    Calls Try.prog 15 #[.agg #[.slice A0_0 l0_0.length c0_0, .slice A0_1 l0_1.length c0_1, .slice A0_2 l0_2.length c0_2, .slice A0_3 l0_3.length c0_3]] w fun e w' => e = .returned (.int .i64 1) ∧ Below w.heap.size w w' := by
  have h1 : ¬ (120 : Int) < (l0_0.length : Int) := by omega
  have h2 : ¬ (60 : Int) < (l0_1.length : Int) := by omega
  have h3 : ¬ (20 : Int) < (l0_2.length : Int) := by omega
  have h4 : ¬ (20 : Int) < (l0_3.length : Int) := by omega
  have HR0 := Aside0.mk hr0_0
  have HR1 := Aside0.mk hr0_1
  clear h hr0_0 hr0_1
  by_cases hb : l0_0.all in32 = true
  · have hb1 : l0_1.all in32 = false := by
      rcases hn with hn | hn
      · rw [hb] at hn; cases hn
      · exact hn
    have H0 := Lib.hid hb
    have H1 := Lib.hid hb1
    clear hb hb1 hn
    go_enter Try.func15, Try.ntmps15
    go_wp2_with fail
    refine (module_numbers.calls A0_0 c0_0 l0_0 true _ (Kd.C_below HR0.out ((Below.refl _ _).alloc (Nat.le_refl _) _)) hc0 (congrArg some H0.out)).mono ?_
    rintro e w1 ⟨rfl, hb1⟩
    have HB := Aside0.mk (box_start hb1)
    clear hb1
    have f1 := box_cell (j := 1) HB.out rfl
    go_wp2_with fail
    refine (module_numbers.calls A0_1 c0_1 l0_1 false _ (Kd.C_below HR1.out (box_old HB.out)) hc1 (congrArg some H1.out)).mono ?_
    rintro e w2 ⟨rfl, hb2⟩
    have HB2 := Aside0.mk (box_later HB.out hb2)
    clear hb2 f1
    go_wp2
    go_ret
    exact ⟨rfl, box_old HB2.out⟩
  · have H0 := Lib.hid (Bool.eq_false_iff.2 hb)
    clear hb hn
    go_enter Try.func15, Try.ntmps15
    go_wp2_with fail
    refine (module_numbers.calls A0_0 c0_0 l0_0 false _ (Kd.C_below HR0.out ((Below.refl _ _).alloc (Nat.le_refl _) _)) hc0 (congrArg some H0.out)).mono ?_
    rintro e w1 ⟨rfl, hb1⟩
    have HB := Aside0.mk (box_start hb1)
    clear hb1
    go_wp2
    go_ret
    exact ⟨rfl, box_old HB.out⟩
set_option maxHeartbeats 8000000 in
theorem module_Check_loops (hr0_0 : Kd.C (Kd.int .i64) w A0_0 l0_0.length l0_0) (hc0 : l0_0.length ≤ c0_0) (hr0_1 : Kd.C (Kd.int .i64) w A0_1 l0_1.length l0_1) (hc1 : l0_1.length ≤ c0_1)
    (hr0_2 : Kd.C k57 w A0_2 l0_2.length l0_2) (hc2 : l0_2.length ≤ c0_2) (hr0_3 : Kd.C k59 w A0_3 l0_3.length l0_3) (hc3 : l0_3.length ≤ c0_3)
    (h : ¬ (120 < l0_0.length ∨ 60 < l0_1.length ∨ 20 < l0_2.length ∨ 20 < l0_3.length)) (hb : l0_0.all in32 = true) (hb1 : l0_1.all in32 = true) (R : Int)
    (hR : R = if expsGo l0_0.length [] l0_2 = 0 then impsGo l0_1.length [] l0_3 else expsGo l0_0.length [] l0_2) :
    Calls Try.prog 15 #[.agg #[.slice A0_0 l0_0.length c0_0, .slice A0_1 l0_1.length c0_1, .slice A0_2 l0_2.length c0_2, .slice A0_3 l0_3.length c0_3]] w fun e w' => e = .returned (.int .i64 R) ∧ Below w.heap.size w w' := by
  have h1 : ¬ (120 : Int) < (l0_0.length : Int) := by omega
  have h2 : ¬ (60 : Int) < (l0_1.length : Int) := by omega
  have h3 : ¬ (20 : Int) < (l0_2.length : Int) := by omega
  have h4 : ¬ (20 : Int) < (l0_3.length : Int) := by omega
  have HR0 := Aside0.mk hr0_0
  have HR1 := Aside0.mk hr0_1
  have HR2 := Aside0.mk hr0_2
  have HR3 := Aside0.mk hr0_3
  have H0 := Lib.hid hb
  have H1 := Lib.hid hb1
  have HR := Aside0.mk hR
  clear h hr0_0 hr0_1 hr0_2 hr0_3 hb hb1 hR
  go_enter Try.func15, Try.ntmps15
  go_wp2_with fail
  refine (module_numbers.calls A0_0 c0_0 l0_0 true _ (Kd.C_below HR0.out ((Below.refl _ _).alloc (Nat.le_refl _) _)) hc0 (congrArg some H0.out)).mono ?_
  rintro e w1 ⟨rfl, hb1⟩
  have HB := Aside0.mk (box_start hb1)
  clear hb1
  have f1 := box_cell (j := 1) HB.out rfl
  go_wp2_with fail
  refine (module_numbers.calls A0_1 c0_1 l0_1 true _ (Kd.C_below HR1.out (box_old HB.out)) hc1 (congrArg some H1.out)).mono ?_
  rintro e w2 ⟨rfl, hb2⟩
  have HB2 := Aside0.mk (box_later HB.out hb2)
  clear hb2 f1 HB
  have f2 := box_cell (j := 2) HB2.out rfl
  go_wp2
  clear f2
  go_loopw [44] (fun v44 wr => ∃ k : Nat, k ≤ l0_2.length ∧ v44 = .int .i64 k ∧ Aside0 (R = if expsGo l0_0.length (l0_2.take k) (l0_2.drop k) = 0 then impsGo l0_1.length [] l0_3 else expsGo l0_0.length (l0_2.take k) (l0_2.drop k)) ∧
      Aside0 (Below (w.heap.size + 1) (w.alloc (.cells #[.slice A0_0 l0_0.length c0_0, .slice A0_1 l0_1.length c0_1, .slice A0_2 l0_2.length c0_2, .slice A0_3 l0_3.length c0_3] 26)) wr))
    (fun v44 _ => l0_2.length - (intOf v44).toNat)
  case atStart => exact ⟨0, Nat.zero_le _, rfl, ⟨HR.out⟩, HB2⟩
  case round =>
    clear HB2 HR
    obtain ⟨k, hk, rfl, HR, HB⟩ := hrel
    have f0 := box_cell (j := 0) HB.out rfl
    have f1 := box_cell (j := 1) HB.out rfl
    have f2 := box_cell (j := 2) HB.out rfl
    have f3 := box_cell (j := 3) HB.out rfl
    by_cases hlt : k < l0_2.length
    · have hp0 : (0 : Int) ≤ (k : Int) := by omega
      have hp1 : (k : Int) < (l0_2.length : Int) := by omega
      obtain ⟨ad, e0, hx0, hx1⟩ := at_T57 (Kd.C_below HR2.out (box_old HB.out)) (k : Int) hp0 hp1
      subst e0
      simp only [Int.toNat_natCast] at hx0 hx1
      have HE := Aside0.mk (expsGo_at l0_0.length l0_2 k hlt)
      generalize rd_T57 l0_2 (k : Int) = x at hx0 hx1 HE
      have eg : ∀ args w, (callFunc 49 args).run Try.prog w = .ok (.enter 49 args) w := enters_of Try.func49 (by kernel_rfl) rfl
      by_cases hn : nameB x.f0 = false
      · have HN := Lib.hid hn
        have HF := Aside0.mk (show expErr l0_0.length (l0_2.take k) x = 3 by unfold expErr; rw [if_pos hn])
        clear hn
        go_wp2_with fail
        refine (prog_IsName.calls x.f0 false _ (congrArg some HN.out)).mono ?_
        rintro e w3 ⟨rfl, hb3⟩
        have HX := Aside0.mk (box_start hb3)
        clear hb3
        go_wp2
        go_ret
        exact ⟨by rw [HR.out, HE.out, HF.out]; rfl, box_old (box_later HB.out (box_old HX.out))⟩
      · have HN := Lib.hid (show nameB x.f0 = true by simpa using hn)
        have Hn := Lib.hid hn
        clear hn
        go_wp2_with fail
        refine (prog_IsName.calls x.f0 true _ (congrArg some HN.out)).mono ?_
        rintro e w3 ⟨rfl, hb3⟩
        have HX := Aside0.mk (box_start hb3)
        clear hb3
        have HB3 := Aside0.mk (box_later HB.out (box_old HX.out))
        have g0 := box_cell (j := 0) HX.out rfl
        have g1 := box_cell (j := 1) HX.out rfl
        clear f0 f1 f2 f3 hx0 hx1
        have f0 := box_cell (j := 0) HB3.out rfl
        have f2 := box_cell (j := 2) HB3.out rfl
        have hlk : (l0_2.take k).length = k := by simp; omega
        have hC := ContainsFunc_T57 49 #[.pointer (some ⟨wr.heap.size, 0, none⟩)] eg (fun y => y.f0.toList == x.f0.toList) (some ad) c0_2 (l0_2.take k) w3 (Kd.C_take (Kd.C_below HR2.out (box_old HB3.out)) hk) (fun W y hW => check1_any y wr.heap.size x.f0 W (pw_cell_below hW g0))
        rw [hlk] at hC
        clear hlk
        cases ha : (l0_2.take k).any (fun y => y.f0.toList == x.f0.toList) with
        | true =>
          rw [ha] at hC
          have HC := Lib.hid hC
          have HF := Aside0.mk (show expErr l0_0.length (l0_2.take k) x = 8 by unfold expErr; rw [if_neg Hn.out, if_pos ha])
          clear ha hC
          go_wp2_with (go_at_call 48; refine HC.out.mono ?_; rintro e w4 ⟨rfl, hb4⟩; have HB4 := Aside0.mk (box_later HB3.out hb4); clear hb4)
          go_ret
          exact ⟨by rw [HR.out, HE.out, HF.out]; rfl, box_old HB4.out⟩
        | false =>
          rw [ha] at hC
          have HC := Lib.hid hC
          have HA := Lib.hid (Bool.eq_false_iff.1 ha)
          clear ha hC
          by_cases hlo : x.f1 < 0
          · have HF := Aside0.mk (show expErr l0_0.length (l0_2.take k) x = 13 by unfold expErr; rw [if_neg Hn.out, if_neg HA.out, if_pos hlo])
            go_wp2_with (go_at_call 48; refine HC.out.mono ?_; rintro e w4 ⟨rfl, hb4⟩; have HB4 := Aside0.mk (box_later HB3.out hb4); have HX4 := Aside0.mk (box_later HX.out hb4); clear hb4 f0 f2 g0 g1; have f0 := box_cell (j := 0) HB4.out rfl; have g1 := box_cell (j := 1) HX4.out rfl)
            go_ret
            exact ⟨by rw [HR.out, HE.out, HF.out]; rfl, box_old HB4.out⟩
          · by_cases hhi : (l0_0.length : Int) ≤ x.f1
            · have HF := Aside0.mk (show expErr l0_0.length (l0_2.take k) x = 13 by unfold expErr; rw [if_neg Hn.out, if_neg HA.out, if_neg hlo, if_pos hhi])
              go_wp2_with (go_at_call 48; refine HC.out.mono ?_; rintro e w4 ⟨rfl, hb4⟩; have HB4 := Aside0.mk (box_later HB3.out hb4); have HX4 := Aside0.mk (box_later HX.out hb4); clear hb4 f0 f2 g0 g1; have f0 := box_cell (j := 0) HB4.out rfl; have g1 := box_cell (j := 1) HX4.out rfl)
              go_ret
              exact ⟨by rw [HR.out, HE.out, HF.out]; rfl, box_old HB4.out⟩
            · have HF := Aside0.mk (show expErr l0_0.length (l0_2.take k) x = 0 by unfold expErr; rw [if_neg Hn.out, if_neg HA.out, if_neg hlo, if_neg hhi])
              go_wp2_with (go_at_call 48; refine HC.out.mono ?_; rintro e w4 ⟨rfl, hb4⟩; have HB4 := Aside0.mk (box_later HB3.out hb4); have HX4 := Aside0.mk (box_later HX.out hb4); clear hb4 f0 f2 g0 g1; have f0 := box_cell (j := 0) HB4.out rfl; have g1 := box_cell (j := 1) HX4.out rfl)
              go_roundw
              case rel => exact ⟨k + 1, by omega, by go_num, ⟨by rw [HR.out, HE.out, if_pos HF.out]⟩, HB4⟩
              case measure => simp [intOf]; omega
    · have HZ := Aside0.mk (show R = impsGo l0_1.length [] l0_3 by rw [HR.out, List.drop_eq_nil_of_le (by omega)]; rfl)
      clear HR f0 f1 f2
      go_wp2
      clear f3
      obtain ⟨wo, rfl⟩ : ∃ wo : World, wo = wr := ⟨_, rfl⟩
      go_loopw [77] (fun v77 wr => ∃ k : Nat, k ≤ l0_3.length ∧ v77 = .int .i64 k ∧ Aside0 (R = impsGo l0_1.length (l0_3.take k) (l0_3.drop k)) ∧
          Aside0 (Below (w.heap.size + 1) (w.alloc (.cells #[.slice A0_0 l0_0.length c0_0, .slice A0_1 l0_1.length c0_1, .slice A0_2 l0_2.length c0_2, .slice A0_3 l0_3.length c0_3] 26)) wr))
        (fun v77 _ => l0_3.length - (intOf v77).toNat)
      case atStart => exact ⟨0, Nat.zero_le _, rfl, ⟨HZ.out⟩, HB⟩
      case round =>
        clear HB HZ hlt hk
        obtain ⟨k, hk, rfl, HR, HB⟩ := hrel
        have f1 := box_cell (j := 1) HB.out rfl
        have f3 := box_cell (j := 3) HB.out rfl
        by_cases hlt : k < l0_3.length
        · have hp0 : (0 : Int) ≤ (k : Int) := by omega
          have hp1 : (k : Int) < (l0_3.length : Int) := by omega
          obtain ⟨ad, e0, hx0, hx1⟩ := at_T59 (Kd.C_below HR3.out (box_old HB.out)) (k : Int) hp0 hp1
          subst e0
          simp only [Int.toNat_natCast] at hx0 hx1
          have HE := Aside0.mk (impsGo_at l0_1.length l0_3 k hlt)
          generalize rd_T59 l0_3 (k : Int) = x at hx0 hx1 HE
          have eg : ∀ args w, (callFunc 51 args).run Try.prog w = .ok (.enter 51 args) w := enters_of Try.func51 (by kernel_rfl) rfl
          by_cases hn : nameB x.f0 = false
          · have HN := Lib.hid hn
            have HF := Aside0.mk (show impErr l0_1.length (l0_3.take k) x = 3 by unfold impErr; rw [if_pos hn])
            clear hn
            go_wp2_with fail
            refine (prog_IsName.calls x.f0 false _ (congrArg some HN.out)).mono ?_
            rintro e w3 ⟨rfl, hb3⟩
            have HX := Aside0.mk (box_start hb3)
            clear hb3
            go_wp2
            go_ret
            exact ⟨by rw [HR.out, HE.out, HF.out]; rfl, box_old (box_later HB.out (box_old HX.out))⟩
          · have HN := Lib.hid (show nameB x.f0 = true by simpa using hn)
            have Hn := Lib.hid hn
            clear hn
            go_wp2_with fail
            refine (prog_IsName.calls x.f0 true _ (congrArg some HN.out)).mono ?_
            rintro e w3 ⟨rfl, hb3⟩
            have HX := Aside0.mk (box_start hb3)
            clear hb3
            have HB3 := Aside0.mk (box_later HB.out (box_old HX.out))
            have g0 := box_cell (j := 0) HX.out rfl
            have g1 := box_cell (j := 1) HX.out rfl
            clear f1 f3 hx0 hx1
            have f1 := box_cell (j := 1) HB3.out rfl
            have f3 := box_cell (j := 3) HB3.out rfl
            by_cases hlo : x.f1 < 0
            · have HF := Aside0.mk (show impErr l0_1.length (l0_3.take k) x = 13 by unfold impErr; rw [if_neg Hn.out, if_pos hlo])
              go_wp2
              go_ret
              exact ⟨by rw [HR.out, HE.out, HF.out]; rfl, box_old HB3.out⟩
            · by_cases hhi : (l0_1.length : Int) - 2 < x.f1
              · have HF := Aside0.mk (show impErr l0_1.length (l0_3.take k) x = 13 by unfold impErr; rw [if_neg Hn.out, if_neg hlo, if_pos hhi])
                go_wp2
                go_ret
                exact ⟨by rw [HR.out, HE.out, HF.out]; rfl, box_old HB3.out⟩
              · have hlk : (l0_3.take k).length = k := by simp; omega
                have hC := ContainsFunc_T59 51 #[.pointer (some ⟨wr.heap.size, 0, none⟩)] eg (fun y => near x.f1 y.f1) (some ad) c0_3 (l0_3.take k) w3 (Kd.C_take (Kd.C_below HR3.out (box_old HB3.out)) hk) (fun W y hW => check2_any y wr.heap.size x.f1 W (pw_cell_below hW g1))
                rw [hlk] at hC
                clear hlk
                cases ha : (l0_3.take k).any (fun y => near x.f1 y.f1) with
                | true =>
                  rw [ha] at hC
                  have HC := Lib.hid hC
                  have HF := Aside0.mk (show impErr l0_1.length (l0_3.take k) x = 8 by unfold impErr; rw [if_neg Hn.out, if_neg hlo, if_neg hhi, if_pos ha])
                  clear ha hC
                  go_wp2_with (go_at_call 50; refine HC.out.mono ?_; rintro e w4 ⟨rfl, hb4⟩; have HB4 := Aside0.mk (box_later HB3.out hb4); clear hb4)
                  go_ret
                  exact ⟨by rw [HR.out, HE.out, HF.out]; rfl, box_old HB4.out⟩
                | false =>
                  rw [ha] at hC
                  have HC := Lib.hid hC
                  have HF := Aside0.mk (show impErr l0_1.length (l0_3.take k) x = 0 by unfold impErr; rw [if_neg Hn.out, if_neg hlo, if_neg hhi, if_neg (by rw [ha]; exact Bool.false_ne_true)])
                  clear ha hC
                  go_wp2_with (go_at_call 50; refine HC.out.mono ?_; rintro e w4 ⟨rfl, hb4⟩; have HB4 := Aside0.mk (box_later HB3.out hb4); clear hb4)
                  go_roundw
                  case rel => exact ⟨k + 1, by omega, by go_num, ⟨by rw [HR.out, HE.out, if_pos HF.out]⟩, HB4⟩
                  case measure => simp [intOf]; omega
        · have HZ := Aside0.mk (show R = 0 by rw [HR.out, List.drop_eq_nil_of_le (by omega)]; rfl)
          go_wp2
          go_ret
          exact ⟨by rw [HZ.out]; rfl, box_old HB.out⟩

theorem module_Check.calls (r : Int) (hr0_0 : Kd.C (Kd.int .i64) w A0_0 l0_0.length l0_0) (hc0_0 : l0_0.length ≤ c0_0) (hr0_1 : Kd.C (Kd.int .i64) w A0_1 l0_1.length l0_1) (hc0_1 : l0_1.length ≤ c0_1)
    (hr0_2 : Kd.C k57 w A0_2 l0_2.length l0_2) (hc0_2 : l0_2.length ≤ c0_2) (hr0_3 : Kd.C k59 w A0_3 l0_3.length l0_3) (hc0_3 : l0_3.length ≤ c0_3) (h : module_Check.f l0_0 l0_1 l0_2 l0_3 = some r) :
    Calls Try.prog 15 #[.agg #[.slice A0_0 l0_0.length c0_0, .slice A0_1 l0_1.length c0_1, .slice A0_2 l0_2.length c0_2, .slice A0_3 l0_3.length c0_3]] w fun e w' => e = .returned (.int .i64 r) ∧ Below w.heap.size w w' := by
  obtain rfl := Option.some.inj h
  unfold modCheck
  split
  · exact module_Check_large A0_0 c0_0 l0_0 A0_1 c0_1 l0_1 A0_2 c0_2 l0_2 A0_3 c0_3 l0_3 w hr0_0 hr0_1 (by assumption)
  · split
    · exact module_Check_numbers A0_0 c0_0 l0_0 A0_1 c0_1 l0_1 A0_2 c0_2 l0_2 A0_3 c0_3 l0_3 w hr0_0 hc0_0 hr0_1 hc0_1 (by assumption) (by assumption)
    · rename_i hl hn
      have hn0 : l0_0.all in32 = true := by cases h0 : l0_0.all in32 <;> simp_all
      have hn1 : l0_1.all in32 = true := by cases h0 : l0_1.all in32 <;> simp_all
      exact module_Check_loops A0_0 c0_0 l0_0 A0_1 c0_1 l0_1 A0_2 c0_2 l0_2 A0_3 c0_3 l0_3 w hr0_0 hc0_0 hr0_1 hc0_1 hr0_2 hc0_2 hr0_3 hc0_3 hl hn0 hn1 _ rfl
end

end Go.Proofs.Ytljjdkjmciheeaa.P
