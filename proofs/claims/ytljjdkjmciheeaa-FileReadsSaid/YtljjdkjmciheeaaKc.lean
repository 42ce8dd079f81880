/- The contract of the reference's FileRead, by hand: its walk. -/
import Derived.Test.YtljjdkjmciheeaaKb
namespace Go.Proofs.Ytljjdkjmciheeaa.P
open Go.RowKit Go.Proofs.YtljjdkjmciheeaaW.PrintWords Go.Proofs.YtljjdkjmciheeaaW.PrintLast Go.Proofs.YtljjdkjmciheeaaW.PrintMore
attribute [local go_sem] max2_int min2_int max_two min_two max_three min_three max_four min_four   -- for this text's walks alone
set_option linter.unusedVariables false
set_option linter.unusedSimpArgs false

/-- The last two bytes that a text of such bytes should bear. -/
def tailB (s : ByteArray) : ByteArray := strOfNums (hiN (sumB (s.extract 0 (s.size - 2)) % 65536) 2)
/-- What is read. -/
def restR (s : ByteArray) : ByteArray := s.extract 7 (s.size - 2)
def nR (s : ByteArray) (j : Nat) : Nat := (bt s (j : Int)).toNat
def cR (s : ByteArray) : List Int × ByteArray := numsR (nR s 3) (restR s)
def dR (s : ByteArray) : List Int × ByteArray := numsR (nR s 4) (cR s).2
def eR (s : ByteArray) : List S57 × ByteArray := labsR (nR s 5) (dR s).2
def iR (s : ByteArray) : List S59 × ByteArray := impsR (nR s 6) (eR s).2
def readErr (s : ByteArray) : Int := if modCheck (cR s).1 (dR s).1 (eR s).1 (iR s).1 = 0 ∧ (packB (cR s).1 (dR s).1 (eR s).1 (iR s).1).toList = s.toList then 0 else 5
def custodianref_FileRead.f (s : ByteArray) : Option (List Int × List Int × List S57 × List S59 × Int) :=
  if (s.size : Int) > 4000 then some ([], [], [], [], 2) else if (s.size : Int) < 9 then some ([], [], [], [], 4) else
  if (s.extract (s.size - 2) s.size).toList = (tailB s).toList then (if readErr s = 0 then some ((cR s).1, (dR s).1, (eR s).1, (iR s).1, 0) else some ([], [], [], [], 5)) else some ([], [], [], [], 6)

/-- The contract's post. -/
def ReadPost (w : World) (r1 r2 : List Int) (r3 : List S57) (r4 : List S59) (r5 : Int) (e : Ending) (w' : World) : Prop :=
  ∃ v0_ v1_ v2_ v3_ : Value, e = .returned (.tuple #[.agg #[v0_, v1_, v2_, v3_], .int .i64 r5]) ∧ Kd.R (Kd.int .i64) 3 w' w.heap.size (fun k_ => some k_ ≠ (v1_ : Value).ownBlock) v0_ r1 ∧ Kd.R (Kd.int .i64) 3 w' w.heap.size (fun k_ => some k_ ≠ (v0_ : Value).ownBlock) v1_ r2 ∧ Kd.R k57 57 w' w.heap.size (fun _ => True) v2_ r3 ∧ Kd.R k59 59 w' w.heap.size (fun _ => True) v3_ r4 ∧ Below w.heap.size w w'
theorem post_nil {w w1 : World} (x : Int) (h : Below w.heap.size w w1) : ReadPost w [] [] [] [] x (.returned (.tuple #[.agg #[.slice none 0 0, .slice none 0 0, .slice none 0 0, .slice none 0 0], .int .i64 x])) w1 :=
  ⟨_, _, _, _, rfl, Kd.R_nil _ _ _ _ _, Kd.R_nil _ _ _ _ _, Kd.R_nil _ _ _ _ _, Kd.R_nil _ _ _ _ _, h⟩

set_option maxHeartbeats 2000000 in
set_option maxRecDepth 100000 in
theorem fileRead_large (s : ByteArray) (w : World) (h1 : (4000 : Int) < (s.size : Int)) : Calls Try.prog 9 #[.string s] w (ReadPost w [] [] [] [] 2) := by
  go_enter Try.func9, Try.ntmps9
  go_wp2
  exact bodyPost_ret (v := .tuple #[.agg #[.slice none 0 0, .slice none 0 0, .slice none 0 0, .slice none 0 0], .int .i64 2]) (by simp [results, Try.results9, go_sem]) rfl
      (post_nil 2 ((Below.refl _ _).alloc (Nat.le_refl _) _))
set_option maxHeartbeats 2000000 in
set_option maxRecDepth 100000 in
theorem fileRead_short (s : ByteArray) (w : World) (h1 : (s.size : Int) < 9) : Calls Try.prog 9 #[.string s] w (ReadPost w [] [] [] [] 4) := by
  have h0 : ¬ (4000 : Int) < (s.size : Int) := by omega
  go_enter Try.func9, Try.ntmps9
  go_wp2
  exact bodyPost_ret (v := .tuple #[.agg #[.slice none 0 0, .slice none 0 0, .slice none 0 0, .slice none 0 0], .int .i64 4]) (by simp [results, Try.results9, go_sem]) rfl
      (post_nil 4 ((Below.refl _ _).alloc (Nat.le_refl _) _))
theorem deep_fix (s : ByteArray) (hs : s.size ≤ 4) (w : World) : Calls Try.prog 27 #[.string s] w fun e w' => e = .returned (.int .i64 (deepB s)) ∧ Drawn0 w w' := by
  obtain ⟨k, h⟩ := deep_is s hs
  exact custodianref_deep.calls k s (deepB s) w h
theorem sum_fix (s : ByteArray) (hs : s.size ≤ 4000) (w : World) : Calls Try.prog 22 #[.string s] w fun e w' => e = .returned (.int .i64 (sumB s)) ∧ Drawn0 w w' := by
  obtain ⟨k, h⟩ := Ev.rounds (sumOf_is s (by omega))
  exact custodianref_sumOf.calls k s (sumB s) w h
theorem high_fix (n : Int) (h0 : 0 ≤ n) (h1 : n < 65536) (w : World) : Calls Try.prog 21 #[.int .i64 n, .int .i64 2] w fun e w' => e = .returned (.string (strOfNums (hiN n 2))) ∧ Below w.heap.size w w' := by
  obtain ⟨k, h⟩ := Ev.rounds (high_is 2 n (by decide) h0 (by omega))
  exact custodianref_High.calls k n 2 _ w h

theorem put_nils {w : World} {g : Nat} (h : w.heap[g]? = some (.cells #[.slice none 0 0, .slice none 0 0, .slice none 0 0, .slice none 0 0] 26 (0, 0))) :
    ((((w.setCell ⟨g, 0, none⟩ (.slice none 0 0)).setCell ⟨g, 1, none⟩ (.slice none 0 0)).setCell ⟨g, 2, none⟩ (.slice none 0 0)).setCell ⟨g, 3, none⟩ (.slice none 0 0)).heap[g]? = some (.cells #[.slice none 0 0, .slice none 0 0, .slice none 0 0, .slice none 0 0] 26 (0, 0)) :=
  blk_put (blk_put (blk_put (blk_put h 0 _ rfl) 1 _ rfl) 2 _ rfl) 3 _ rfl
theorem put_below {w W : World} {g : Nat} {a b c d : Value} (h : Below w.heap.size w W) (hg : w.heap.size ≤ g) :
    Below w.heap.size w ((((W.setCell ⟨g, 0, none⟩ a).setCell ⟨g, 1, none⟩ b).setCell ⟨g, 2, none⟩ c).setCell ⟨g, 3, none⟩ d) :=
  (((h.setCell hg _).setCell hg _).setCell hg _).setCell hg _

set_option maxHeartbeats 4000000 in
set_option maxRecDepth 100000 in
theorem fileRead_sum (s : ByteArray) (w : World) (h0 : (s.size : Int) ≤ 4000) (h1 : 9 ≤ (s.size : Int)) (hs : ¬ (s.extract (s.size - 2) s.size).toList = (tailB s).toList) : Calls Try.prog 9 #[.string s] w (ReadPost w [] [] [] [] 6) := by
  have hz1 : IntKind.i64.wrap ((s.size : Int) - 2) = ((s.size - 2 : Nat) : Int) := by rw [IntWalk.i64_in _ (by omega)]; omega
  have hr := sumB_range (s.extract 0 (s.size - 2)) (by simp; omega)
  have hm : (sumB (s.extract 0 (s.size - 2))).tmod 65536 = sumB (s.extract 0 (s.size - 2)) % 65536 := by rw [Int.tmod_eq_emod_of_nonneg hr.1]
  have hm0 : 0 ≤ sumB (s.extract 0 (s.size - 2)) % 65536 := by omega
  have hm1 : sumB (s.extract 0 (s.size - 2)) % 65536 < 65536 := by omega
  have c1 : decide ((4000 : Int) < (s.size : Int)) = false := decide_eq_false (by omega)
  have c2 : decide ((s.size : Int) < 9) = false := decide_eq_false (by omega)
  have HS := Aside0.mk (sum_fix (s.extract 0 (s.size - 2)) (by simp; omega))
  have HH := Aside0.mk (high_fix _ hm0 hm1)
  change ¬ (s.extract (s.size - 2) s.size).toList = (strOfNums (hiN (sumB (s.extract 0 (s.size - 2)) % 65536) 2)).toList at hs
  generalize strOfNums (hiN (sumB (s.extract 0 (s.size - 2)) % 65536) 2) = T at hs HH
  have hne : ((s.extract (s.size - 2) s.size).toList != T.toList) = true := bne_iff_ne.mpr hs
  have hne2 : ((s.extract (s.size - 2) s.size).toList == T.toList) = false := beq_eq_false_iff_ne.mpr hs
  go_enter Try.func9, Try.ntmps9
  go_wp2_with ((with_reducible refine gate_dst (N := 2) rfl ?_); refine box_event ?hg (N := 2) ?hd (cs := #[.slice none 0 0, .slice none 0 0, .slice none 0 0, .slice none 0 0]) (t := 26) ?hr ?_; (case hd => rfl); (case hg => rfl); (case hr => first | (go_simp; done) | (go_simp; rfl)); intro g2 hg2 w2 hx2 hb2; have HX2 := Aside0.mk hx2; have HB2 := Aside0.mk hb2; have HG2 := Aside0.mk hg2; clear hx2 hb2 hg2; have hczw2_0 : w2.cell? ⟨g2, 0, none⟩ = some (.slice none 0 0) := (blk_cell HX2.out 0).trans rfl; have hfzw2_0 := blk_frozen HX2.out 0; have hczw2_1 : w2.cell? ⟨g2, 1, none⟩ = some (.slice none 0 0) := (blk_cell HX2.out 1).trans rfl; have hfzw2_1 := blk_frozen HX2.out 1; have hczw2_2 : w2.cell? ⟨g2, 2, none⟩ = some (.slice none 0 0) := (blk_cell HX2.out 2).trans rfl; have hfzw2_2 := blk_frozen HX2.out 2; have hczw2_3 : w2.cell? ⟨g2, 3, none⟩ = some (.slice none 0 0) := (blk_cell HX2.out 3).trans rfl; have hfzw2_3 := blk_frozen HX2.out 3)
  go_region_held3 (fun _ => True) (trivial) (first
    | (go_at_call 22; refine (HS.out _).mono ?_; rintro e w3 ⟨rfl, ⟨nd, rfl⟩⟩)
    | (go_at_call 21; refine (HH.out _).mono ?_; rintro e w4 ⟨rfl, hb4⟩; have HX4 : Aside0 (w4.heap[g2]? = some (.cells #[.slice none 0 0, .slice none 0 0, .slice none 0 0, .slice none 0 0] 26 (0, 0))) := ⟨by refine blk_below ?_ hb4; exact HX2.out⟩; have HB4 : Aside0 (Below w.heap.size w w4) := ⟨below_step (by repeat (first | (with_reducible first | exact HB2.out | apply below_alloc | apply pw_below_drewN | apply below_drew1) | exact HB2.out)) hb4⟩; clear hb4; clear hczw2_0 hczw2_1 hczw2_2 hczw2_3 hfzw2_0 hfzw2_1 hfzw2_2 hfzw2_3; have hczw4_0 : w4.cell? ⟨g2, 0, none⟩ = some (.slice none 0 0) := (blk_cell HX4.out 0).trans rfl; have hfzw4_0 := blk_frozen HX4.out 0; have hczw4_1 : w4.cell? ⟨g2, 1, none⟩ = some (.slice none 0 0) := (blk_cell HX4.out 1).trans rfl; have hfzw4_1 := blk_frozen HX4.out 1; have hczw4_2 : w4.cell? ⟨g2, 2, none⟩ = some (.slice none 0 0) := (blk_cell HX4.out 2).trans rfl; have hfzw4_2 := blk_frozen HX4.out 2; have hczw4_3 : w4.cell? ⟨g2, 3, none⟩ = some (.slice none 0 0) := (blk_cell HX4.out 3).trans rfl; have hfzw4_3 := blk_frozen HX4.out 3))
  all_goals go_wp2
  all_goals (refine bodyPost_ret (results_ct rfl _ _ g2 26 #[.slice none 0 0, .slice none 0 0, .slice none 0 0, .slice none 0 0] (0, 0) _ rfl (put_nils HX4.out) Try.underlying26 rfl (by kernel_rfl)) rfl ?_)

  all_goals exact post_nil 6 (put_below HB4.out (by have := HB2.out.size; have := HG2.out; omega))


theorem put_four {w : World} {g : Nat} {a b c d a0 b0 c0 d0 : Value} (h : w.heap[g]? = some (.cells #[a0, b0, c0, d0] 26 (0, 0))) :
    ((((w.setCell ⟨g, 0, none⟩ a).setCell ⟨g, 1, none⟩ b).setCell ⟨g, 2, none⟩ c).setCell ⟨g, 3, none⟩ d).heap[g]? = some (.cells #[a, b, c, d] 26 (0, 0)) :=
  blk_put (blk_put (blk_put (blk_put h 0 a rfl) 1 b rfl) 2 c rfl) 3 d rfl
theorem row_four {α : Type} {k : Kd α} {q : Nat} {ok : Nat → Prop} {w : World} {base g : Nat} {a b c d a0 b0 c0 d0 v : Value} {xs : List α} (hr : k.R q w base ok v xs) (h : w.heap[g]? = some (.cells #[a0, b0, c0, d0] 26 (0, 0))) (ht : ∀ r, r ∈ q :: k.E → r ≠ 26) :
    k.R q ((((w.setCell ⟨g, 0, none⟩ a).setCell ⟨g, 1, none⟩ b).setCell ⟨g, 2, none⟩ c).setCell ⟨g, 3, none⟩ d) base ok v xs :=
  Kd.R_set (Kd.R_set (Kd.R_set (Kd.R_set hr h ht 0 a) (blk_put h 0 a rfl) ht 1 b) (blk_put (blk_put h 0 a rfl) 1 b rfl) ht 2 c) (blk_put (blk_put (blk_put h 0 a rfl) 1 b rfl) 2 c rfl) ht 3 d
def packS (l0 l1 : List Int) (l2 : List S57) (l3 : List S59) : ByteArray := if modCheck l0 l1 l2 l3 = 0 then packB l0 l1 l2 l3 else ⟨#[]⟩
theorem pack_fix (l0 l1 : List Int) (l2 : List S57) (l3 : List S59) {A0 A1 A2 A3 : Option Addr} {c0 c1 c2 c3 : Nat} {w : World} (hr0 : Kd.C (Kd.int .i64) w A0 l0.length l0) (hc0 : l0.length ≤ c0) (hr1 : Kd.C (Kd.int .i64) w A1 l1.length l1) (hc1 : l1.length ≤ c1) (hr2 : Kd.C k57 w A2 l2.length l2) (hc2 : l2.length ≤ c2) (hr3 : Kd.C k59 w A3 l3.length l3) (hc3 : l3.length ≤ c3) :
    Calls Try.prog 7 #[.agg #[.slice A0 l0.length c0, .slice A1 l1.length c1, .slice A2 l2.length c2, .slice A3 l3.length c3]] w fun e w' => e = .returned (.tuple #[.string (packS l0 l1 l2 l3), .int .i64 (modCheck l0 l1 l2 l3)]) ∧ Below w.heap.size w w' := by
  obtain ⟨k, h⟩ := Ev.rounds (filePack_is l0 l1 l2 l3)
  have e : (if modCheck l0 l1 l2 l3 = 0 then (packB l0 l1 l2 l3, (0 : Int)) else (⟨#[]⟩, modCheck l0 l1 l2 l3)) = (packS l0 l1 l2 l3, modCheck l0 l1 l2 l3) := by
    unfold packS
    split
    · rename_i hm; rw [hm]
    · rfl
  rw [e] at h
  exact custodianref_FilePack.calls k A0 c0 l0 A1 c1 l1 A2 c2 l2 A3 c3 l3 _ _ w hr0 hc0 hr1 hc1 hr2 hc2 hr3 hc3 h

end Go.Proofs.Ytljjdkjmciheeaa.P
