/- Contracts of slices.IndexFunc and slices.ContainsFunc at whole numbers, labels and imports, for whatever predicate; module.numbers. -/
import Derived.Test.YtljjdkjmciheeaaFa
namespace Go.Proofs.Ytljjdkjmciheeaa.P
open Go.RowKit Go.Proofs.YtljjdkjmciheeaaW.PrintWords Go.Proofs.YtljjdkjmciheeaaW.PrintLast Go.Proofs.YtljjdkjmciheeaaW.PrintMore
open Go.Shelf Go.Lib
set_option linter.unusedVariables false

theorem Kd.C_max {α : Type} {d : Kd α} {w : World} {A : Option Addr} {n : Nat} {xs : List α} (h : Kd.C d w A n xs) : n ≤ 9223372036854775807 := h.2.1

/-- From place k on. -/
def idxFrom {α : Type} (p : α → Bool) (l : List α) (k : Nat) : Int := match (l.drop k).findIdx? p with | some i => ((k + i : Nat) : Int) | none => -1
def idxOf {α : Type} (p : α → Bool) (l : List α) : Int := idxFrom p l 0
theorem idxFrom_hit {α : Type} (p : α → Bool) (l : List α) (k : Nat) (x : α) (hx : l[k]? = some x) (h : p x = true) : idxFrom p l k = k := by
  have hk : k < l.length := by
    rcases Nat.lt_or_ge k l.length with h1 | h1
    · exact h1
    · rw [List.getElem?_eq_none h1] at hx; cases hx
  unfold idxFrom
  have e : l.drop k = x :: l.drop (k + 1) := by
    rw [List.drop_eq_getElem_cons hk]; rw [List.getElem?_eq_getElem hk] at hx; rw [Option.some.inj hx]
  rw [e]; simp [List.findIdx?_cons, h]
theorem idxFrom_miss {α : Type} (p : α → Bool) (l : List α) (k : Nat) (x : α) (hx : l[k]? = some x) (h : p x = false) : idxFrom p l k = idxFrom p l (k + 1) := by
  have hk : k < l.length := by
    rcases Nat.lt_or_ge k l.length with h1 | h1
    · exact h1
    · rw [List.getElem?_eq_none h1] at hx; cases hx
  unfold idxFrom
  have e : l.drop k = x :: l.drop (k + 1) := by
    rw [List.drop_eq_getElem_cons hk]; rw [List.getElem?_eq_getElem hk] at hx; rw [Option.some.inj hx]
  rw [e]; simp only [List.findIdx?_cons, h]
  cases (l.drop (k + 1)).findIdx? p with
  | none => simp
  | some i => simp; omega
theorem idxFrom_end {α : Type} (p : α → Bool) (l : List α) (k : Nat) (h : l.length ≤ k) : idxFrom p l k = -1 := by
  unfold idxFrom; rw [List.drop_eq_nil_of_le h]; rfl
theorem idxOf_any {α : Type} (p : α → Bool) (l : List α) : decide (0 ≤ idxOf p l) = l.any p := by
  unfold idxOf idxFrom
  rw [List.drop_zero]
  cases h : l.findIdx? p with
  | none =>
    have := List.findIdx?_eq_none_iff.1 h
    have e : l.any p = false := by rw [List.any_eq_false]; intro x hx; simp [this x hx]
    rw [e]; rfl
  | some i =>
    obtain ⟨hi, hp, _⟩ := List.findIdx?_eq_some_iff_getElem.1 h
    have e : l.any p = true := List.any_eq_true.2 ⟨l[i], List.getElem_mem hi, hp⟩
    rw [e]; simp
theorem rd_at_int (l : List Int) (k : Nat) (h : k < l.length) : l[k]? = some (rd l (k : Int)) := by simp [rd, List.getElem?_eq_getElem h, List.getD_eq_getElem?_getD]
theorem rd_at_T57 (l : List S57) (k : Nat) (h : k < l.length) : l[k]? = some (rd_T57 l (k : Int)) := by simp [rd_T57, List.getElem?_eq_getElem h, List.getD_eq_getElem?_getD]
theorem rd_at_T59 (l : List S59) (k : Nat) (h : k < l.length) : l[k]? = some (rd_T59 l (k : Int)) := by simp [rd_T59, List.getElem?_eq_getElem h, List.getD_eq_getElem?_getD]

theorem IndexFunc_int (g : Nat) (lb : Array Value) (eg : ∀ args w, (callFunc g args).run Try.prog w = .ok (.enter g args) w) (p : Int → Bool) (A0 : Option Addr) (c0 : Nat) (l0 : List Int) (w : World) (hr0 : Kd.C (Kd.int .i64) w A0 l0.length l0)
    (hp : ∀ W x, Below w.heap.size w W → Calls Try.prog g (#[.int .i64 x] ++ lb) W fun e w' => e = .returned (.bool (p x)) ∧ Below W.heap.size W w') :
    Calls Try.prog 81 #[.slice A0 l0.length c0, .func (.func g) #[] lb] w fun e w' => e = .returned (.int .i64 (idxOf p l0)) ∧ Below w.heap.size w w' := by
  have HR0 := Aside0.mk hr0
  have HP := Lib.hid hp
  have hmax : l0.length ≤ 9223372036854775807 := Kd.C_max hr0
  clear hr0 hp
  go_enter Try.func81, Try.ntmps81
  go_wp2
  go_loopw [8] (fun v8 wr => ∃ k : Nat, k ≤ l0.length ∧ v8 = .int .i64 k ∧ Aside0 (idxOf p l0 = idxFrom p l0 k) ∧ Aside0 (Below w.heap.size w wr)) (fun v8 _ => l0.length - (intOf v8).toNat)
  case atStart => exact ⟨0, Nat.zero_le _, rfl, ⟨rfl⟩, ⟨Below.refl _ _⟩⟩
  case round =>
    obtain ⟨k, hk, rfl, HI, HB⟩ := hrel
    by_cases hlt : k < l0.length
    · have hp0 : (0 : Int) ≤ (k : Int) := by omega
      have hp1 : (k : Int) < (l0.length : Int) := by omega
      obtain ⟨ad, e0, hx0⟩ := Kd.at_int (Kd.C_below HR0.out HB.out) (k : Int) hp0 hp1
      subst e0
      simp only [Int.toNat_natCast] at hx0
      cases hpx : p (rd l0 (k : Int)) with
      | true =>
        have HF := Aside0.mk (idxFrom_hit p l0 k (rd l0 (k : Int)) (rd_at_int l0 k hlt) hpx)
        have HX := Lib.hid hpx
        clear hpx
        go_wp2_with (go_at_fn g; refine (HP.out _ (rd l0 (k : Int)) HB.out).mono ?_; rintro e w' ⟨rfl, hb2⟩; rw [HX.out]; have HB2 := Aside0.mk (below_then HB.out HB.out.size hb2); clear hb2)
        go_ret
        exact ⟨by rw [HI.out, HF.out]; rfl, HB2.out⟩
      | false =>
        have HF := Aside0.mk (idxFrom_miss p l0 k (rd l0 (k : Int)) (rd_at_int l0 k hlt) hpx)
        have HX := Lib.hid hpx
        clear hpx
        go_wp2_with (go_at_fn g; refine (HP.out _ (rd l0 (k : Int)) HB.out).mono ?_; rintro e w' ⟨rfl, hb2⟩; rw [HX.out]; have HB2 := Aside0.mk (below_then HB.out HB.out.size hb2); clear hb2)
        go_roundw
        case rel => exact ⟨k + 1, by omega, by go_num, ⟨by rw [HI.out, HF.out]⟩, HB2⟩
        case measure => simp [intOf]; omega
    · have HF := Aside0.mk (idxFrom_end p l0 k (by omega))
      go_wp2
      go_ret
      exact ⟨by rw [HI.out, HF.out]; rfl, HB.out⟩

theorem ContainsFunc_int (g : Nat) (lb : Array Value) (eg : ∀ args w, (callFunc g args).run Try.prog w = .ok (.enter g args) w) (p : Int → Bool) (A0 : Option Addr) (c0 : Nat) (l0 : List Int) (w : World) (hr0 : Kd.C (Kd.int .i64) w A0 l0.length l0)
    (hp : ∀ W x, Below w.heap.size w W → Calls Try.prog g (#[.int .i64 x] ++ lb) W fun e w' => e = .returned (.bool (p x)) ∧ Below W.heap.size W w') :
    Calls Try.prog 65 #[.slice A0 l0.length c0, .func (.func g) #[] lb] w fun e w' => e = .returned (.bool (l0.any p)) ∧ Below w.heap.size w w' := by
  have HC := Lib.hid (IndexFunc_int g lb eg p A0 c0 l0 w hr0 hp)
  obtain ⟨I, hI⟩ : ∃ I, idxOf p l0 = I := ⟨_, rfl⟩
  have HA := Aside0.mk (idxOf_any p l0)
  rw [hI] at HC HA
  clear hI hr0 hp
  go_enter Try.func65, Try.ntmps65
  go_wp2_with (go_at_call 81; refine HC.out.mono ?_; rintro e w' ⟨rfl, hbl⟩)
  go_ret
  exact ⟨by rw [← HA.out]; rfl, hbl⟩

theorem IndexFunc_T57 (g : Nat) (lb : Array Value) (eg : ∀ args w, (callFunc g args).run Try.prog w = .ok (.enter g args) w) (p : S57 → Bool) (A0 : Option Addr) (c0 : Nat) (l0 : List S57) (w : World) (hr0 : Kd.C k57 w A0 l0.length l0)
    (hp : ∀ W x, Below w.heap.size w W → Calls Try.prog g (#[.agg #[.string x.f0, .int .i64 x.f1]] ++ lb) W fun e w' => e = .returned (.bool (p x)) ∧ Below W.heap.size W w') :
    Calls Try.prog 70 #[.slice A0 l0.length c0, .func (.func g) #[] lb] w fun e w' => e = .returned (.int .i64 (idxOf p l0)) ∧ Below w.heap.size w w' := by
  have HR0 := Aside0.mk hr0
  have HP := Lib.hid hp
  have hmax : l0.length ≤ 9223372036854775807 := Kd.C_max hr0
  clear hr0 hp
  go_enter Try.func70, Try.ntmps70
  go_wp2
  go_loopw [8] (fun v8 wr => ∃ k : Nat, k ≤ l0.length ∧ v8 = .int .i64 k ∧ Aside0 (idxOf p l0 = idxFrom p l0 k) ∧ Aside0 (Below w.heap.size w wr)) (fun v8 _ => l0.length - (intOf v8).toNat)
  case atStart => exact ⟨0, Nat.zero_le _, rfl, ⟨rfl⟩, ⟨Below.refl _ _⟩⟩
  case round =>
    obtain ⟨k, hk, rfl, HI, HB⟩ := hrel
    by_cases hlt : k < l0.length
    · have hp0 : (0 : Int) ≤ (k : Int) := by omega
      have hp1 : (k : Int) < (l0.length : Int) := by omega
      obtain ⟨ad, e0, hx0, hx1⟩ := at_T57 (Kd.C_below HR0.out HB.out) (k : Int) hp0 hp1
      subst e0
      simp only [Int.toNat_natCast] at hx0 hx1
      cases hpx : p (rd_T57 l0 (k : Int)) with
      | true =>
        have HF := Aside0.mk (idxFrom_hit p l0 k (rd_T57 l0 (k : Int)) (rd_at_T57 l0 k hlt) hpx)
        have HX := Lib.hid hpx
        clear hpx
        go_wp2_with (go_at_fn g; refine (HP.out _ (rd_T57 l0 (k : Int)) HB.out).mono ?_; rintro e w' ⟨rfl, hb2⟩; rw [HX.out]; have HB2 := Aside0.mk (below_then HB.out HB.out.size hb2); clear hb2)
        go_ret
        exact ⟨by rw [HI.out, HF.out]; rfl, HB2.out⟩
      | false =>
        have HF := Aside0.mk (idxFrom_miss p l0 k (rd_T57 l0 (k : Int)) (rd_at_T57 l0 k hlt) hpx)
        have HX := Lib.hid hpx
        clear hpx
        go_wp2_with (go_at_fn g; refine (HP.out _ (rd_T57 l0 (k : Int)) HB.out).mono ?_; rintro e w' ⟨rfl, hb2⟩; rw [HX.out]; have HB2 := Aside0.mk (below_then HB.out HB.out.size hb2); clear hb2)
        go_roundw
        case rel => exact ⟨k + 1, by omega, by go_num, ⟨by rw [HI.out, HF.out]⟩, HB2⟩
        case measure => simp [intOf]; omega
    · have HF := Aside0.mk (idxFrom_end p l0 k (by omega))
      go_wp2
      go_ret
      exact ⟨by rw [HI.out, HF.out]; rfl, HB.out⟩

theorem ContainsFunc_T57 (g : Nat) (lb : Array Value) (eg : ∀ args w, (callFunc g args).run Try.prog w = .ok (.enter g args) w) (p : S57 → Bool) (A0 : Option Addr) (c0 : Nat) (l0 : List S57) (w : World) (hr0 : Kd.C k57 w A0 l0.length l0)
    (hp : ∀ W x, Below w.heap.size w W → Calls Try.prog g (#[.agg #[.string x.f0, .int .i64 x.f1]] ++ lb) W fun e w' => e = .returned (.bool (p x)) ∧ Below W.heap.size W w') :
    Calls Try.prog 48 #[.slice A0 l0.length c0, .func (.func g) #[] lb] w fun e w' => e = .returned (.bool (l0.any p)) ∧ Below w.heap.size w w' := by
  have HC := Lib.hid (IndexFunc_T57 g lb eg p A0 c0 l0 w hr0 hp)
  obtain ⟨I, hI⟩ : ∃ I, idxOf p l0 = I := ⟨_, rfl⟩
  have HA := Aside0.mk (idxOf_any p l0)
  rw [hI] at HC HA
  clear hI hr0 hp
  go_enter Try.func48, Try.ntmps48
  go_wp2_with (go_at_call 70; refine HC.out.mono ?_; rintro e w' ⟨rfl, hbl⟩)
  go_ret
  exact ⟨by rw [← HA.out]; rfl, hbl⟩

theorem IndexFunc_T59 (g : Nat) (lb : Array Value) (eg : ∀ args w, (callFunc g args).run Try.prog w = .ok (.enter g args) w) (p : S59 → Bool) (A0 : Option Addr) (c0 : Nat) (l0 : List S59) (w : World) (hr0 : Kd.C k59 w A0 l0.length l0)
    (hp : ∀ W x, Below w.heap.size w W → Calls Try.prog g (#[.agg #[.string x.f0, .int .i64 x.f1]] ++ lb) W fun e w' => e = .returned (.bool (p x)) ∧ Below W.heap.size W w') :
    Calls Try.prog 71 #[.slice A0 l0.length c0, .func (.func g) #[] lb] w fun e w' => e = .returned (.int .i64 (idxOf p l0)) ∧ Below w.heap.size w w' := by
  have HR0 := Aside0.mk hr0
  have HP := Lib.hid hp
  have hmax : l0.length ≤ 9223372036854775807 := Kd.C_max hr0
  clear hr0 hp
  go_enter Try.func71, Try.ntmps71
  go_wp2
  go_loopw [8] (fun v8 wr => ∃ k : Nat, k ≤ l0.length ∧ v8 = .int .i64 k ∧ Aside0 (idxOf p l0 = idxFrom p l0 k) ∧ Aside0 (Below w.heap.size w wr)) (fun v8 _ => l0.length - (intOf v8).toNat)
  case atStart => exact ⟨0, Nat.zero_le _, rfl, ⟨rfl⟩, ⟨Below.refl _ _⟩⟩
  case round =>
    obtain ⟨k, hk, rfl, HI, HB⟩ := hrel
    by_cases hlt : k < l0.length
    · have hp0 : (0 : Int) ≤ (k : Int) := by omega
      have hp1 : (k : Int) < (l0.length : Int) := by omega
      obtain ⟨ad, e0, hx0, hx1⟩ := at_T59 (Kd.C_below HR0.out HB.out) (k : Int) hp0 hp1
      subst e0
      simp only [Int.toNat_natCast] at hx0 hx1
      cases hpx : p (rd_T59 l0 (k : Int)) with
      | true =>
        have HF := Aside0.mk (idxFrom_hit p l0 k (rd_T59 l0 (k : Int)) (rd_at_T59 l0 k hlt) hpx)
        have HX := Lib.hid hpx
        clear hpx
        go_wp2_with (go_at_fn g; refine (HP.out _ (rd_T59 l0 (k : Int)) HB.out).mono ?_; rintro e w' ⟨rfl, hb2⟩; rw [HX.out]; have HB2 := Aside0.mk (below_then HB.out HB.out.size hb2); clear hb2)
        go_ret
        exact ⟨by rw [HI.out, HF.out]; rfl, HB2.out⟩
      | false =>
        have HF := Aside0.mk (idxFrom_miss p l0 k (rd_T59 l0 (k : Int)) (rd_at_T59 l0 k hlt) hpx)
        have HX := Lib.hid hpx
        clear hpx
        go_wp2_with (go_at_fn g; refine (HP.out _ (rd_T59 l0 (k : Int)) HB.out).mono ?_; rintro e w' ⟨rfl, hb2⟩; rw [HX.out]; have HB2 := Aside0.mk (below_then HB.out HB.out.size hb2); clear hb2)
        go_roundw
        case rel => exact ⟨k + 1, by omega, by go_num, ⟨by rw [HI.out, HF.out]⟩, HB2⟩
        case measure => simp [intOf]; omega
    · have HF := Aside0.mk (idxFrom_end p l0 k (by omega))
      go_wp2
      go_ret
      exact ⟨by rw [HI.out, HF.out]; rfl, HB.out⟩

theorem ContainsFunc_T59 (g : Nat) (lb : Array Value) (eg : ∀ args w, (callFunc g args).run Try.prog w = .ok (.enter g args) w) (p : S59 → Bool) (A0 : Option Addr) (c0 : Nat) (l0 : List S59) (w : World) (hr0 : Kd.C k59 w A0 l0.length l0)
    (hp : ∀ W x, Below w.heap.size w W → Calls Try.prog g (#[.agg #[.string x.f0, .int .i64 x.f1]] ++ lb) W fun e w' => e = .returned (.bool (p x)) ∧ Below W.heap.size W w') :
    Calls Try.prog 50 #[.slice A0 l0.length c0, .func (.func g) #[] lb] w fun e w' => e = .returned (.bool (l0.any p)) ∧ Below w.heap.size w w' := by
  have HC := Lib.hid (IndexFunc_T59 g lb eg p A0 c0 l0 w hr0 hp)
  obtain ⟨I, hI⟩ : ∃ I, idxOf p l0 = I := ⟨_, rfl⟩
  have HA := Aside0.mk (idxOf_any p l0)
  rw [hI] at HC HA
  clear hI hr0 hp
  go_enter Try.func50, Try.ntmps50
  go_wp2_with (go_at_call 71; refine HC.out.mono ?_; rintro e w' ⟨rfl, hbl⟩)
  go_ret
  exact ⟨by rw [← HA.out]; rfl, hbl⟩

/-- A whole number of 32 bits. -/
def in32 (n : Int) : Bool := decide (-2147483648 ≤ n) && decide (n ≤ 2147483647)
theorem wrap32_ne (n : Int) : (n != wrap32 n) = !in32 n := by
  unfold in32 wrap32
  rw [Bool.eq_iff_iff]
  simp only [bne_iff_ne, ne_eq, Bool.not_eq_true', Bool.and_eq_false_iff, decide_eq_false_iff_not]
  omega
theorem numbers1_any (n : Int) (w : World) : Calls Try.prog 66 #[.int .i64 n] w fun e w' => e = .returned (.bool (!in32 n)) ∧ Below w.heap.size w w' := by
  have HW := Aside0.mk (wrap32_ne n)
  go_enter Try.func66, Try.ntmps66
  go_wp2_with (go_at_call 67; refine (num_Wrap_any n _).mono ?_; rintro e w' ⟨rfl, rfl⟩)
  go_ret
  exact ⟨by rw [← HW.out]; rfl, Below.refl _ _⟩
def module_numbers.f (l0 : List Int) : Option Bool := some (l0.all in32)
theorem module_numbers.calls (A0 : Option Addr) (c0 : Nat) (l0 : List Int) (r : Bool) (w : World) (hr0 : Kd.C (Kd.int .i64) w A0 l0.length l0) (hc0 : l0.length ≤ c0) (h : module_numbers.f l0 = some r) :
    Calls Try.prog 46 #[.slice A0 l0.length c0] w fun e w' => e = .returned (.bool r) ∧ Below w.heap.size w w' := by
  have eg : ∀ args w, (callFunc 66 args).run Try.prog w = .ok (.enter 66 args) w := enters_of Try.func66 (by kernel_rfl) rfl
  have HC := Lib.hid (ContainsFunc_int 66 #[] eg (fun n => !in32 n) A0 c0 l0 w hr0 (fun W x _ => numbers1_any x W))
  have hr : (!(l0.any fun n => !in32 n)) = r := by
    rw [← Option.some.inj h]
    simp [List.any_eq_not_all_not]
  obtain ⟨b, hb⟩ : ∃ b, (l0.any fun n => !in32 n) = b := ⟨_, rfl⟩
  rw [hb] at HC hr
  have HR := Aside0.mk hr
  clear hb hr h hr0
  go_enter Try.func46, Try.ntmps46
  go_wp2_with (go_at_call 65; refine HC.out.mono ?_; rintro e w' ⟨rfl, hbl⟩)
  go_ret
  exact ⟨by rw [← HR.out]; rfl, hbl⟩

end Go.Proofs.Ytljjdkjmciheeaa.P
