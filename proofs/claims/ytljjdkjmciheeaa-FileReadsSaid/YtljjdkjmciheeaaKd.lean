/- The contract of the reference's FileRead, by hand: the loops. -/
import Derived.Test.YtljjdkjmciheeaaKc
namespace Go.Proofs.Ytljjdkjmciheeaa.P
open Go.RowKit Go.Proofs.YtljjdkjmciheeaaW.PrintWords Go.Proofs.YtljjdkjmciheeaaW.PrintLast Go.Proofs.YtljjdkjmciheeaaW.PrintMore
attribute [local go_sem] max2_int min2_int max_two min_two max_three min_three max_four min_four   -- for this text's walks alone
set_option linter.unusedVariables false
set_option linter.unusedSimpArgs false

theorem cell_takes {w : World} {gm gr j : Nat} {u v : Value} (hne : gm ≠ gr) (h : w.cell? ⟨gm, j, none⟩ = some v) : (w.setCell ⟨gr, 0, none⟩ u).cell? ⟨gm, j, none⟩ = some v := (World.cell?_of_block (Below.heap_setCell w ⟨gr, 0, none⟩ u gm hne)).trans h
theorem cell_al {w : World} {a : Addr} {v : Value} {o : Obj} (h : w.cell? a = some v) : (w.alloc o).cell? a = some v := (World.cell?_of_block (Below.heap_alloc w o a.block (World.block_lt_of_cell? w a h))).trans h
theorem cell_dr {w : World} {a : Addr} {v : Value} (h : w.cell? a = some v) : w.drew.cell? a = some v := h
theorem cell_dn {w : World} {a : Addr} {v : Value} {n : Nat} (h : w.cell? a = some v) : (w.drewN n).cell? a = some v := h
theorem one_nonneg : (0 : Int) ≤ 1 := by decide
theorem bt_at (s : ByteArray) (i : Nat) (h : i < s.size) : bt s (i : Int) = ((s[i]'h).toNat : Int) := by
  unfold bt
  simp [h]
/-- The answer of the last comparison. -/
def FinalPost (w : World) (E : Int) (l0 l1 : List Int) (l2 : List S57) (l3 : List S59) (e : Ending) (w' : World) : Prop :=
  (E = 0 → ReadPost w l0 l1 l2 l3 0 e w') ∧ (¬ E = 0 → ReadPost w [] [] [] [] 5 e w')
theorem final_ok {w : World} {E : Int} {l0 l1 : List Int} {l2 : List S57} {l3 : List S59} {e : Ending} {w' : World} (h : E = 0) (hp : ReadPost w l0 l1 l2 l3 0 e w') : FinalPost w E l0 l1 l2 l3 e w' := ⟨fun _ => hp, fun hn => absurd h hn⟩
theorem final_no {w : World} {E : Int} {l0 l1 : List Int} {l2 : List S57} {l3 : List S59} {e : Ending} {w' : World} (h : ¬ E = 0) (hp : ReadPost w [] [] [] [] 5 e w') : FinalPost w E l0 l1 l2 l3 e w' := ⟨fun hn => absurd hn h, fun _ => hp⟩
def rJ (s : ByteArray) : Nat → ByteArray
  | 0 => restR s
  | 1 => (cR s).2
  | _ => (dR s).2
def cJ (s : ByteArray) : Nat → List Int
  | 0 => []
  | _ => (cR s).1
def dJ (s : ByteArray) : Nat → List Int
  | 0 => []
  | 1 => []
  | _ => (dR s).1
set_option maxHeartbeats 40000000 in
set_option maxRecDepth 100000 in
theorem fileRead_go (s : ByteArray) (w : World) (h0 : (s.size : Int) ≤ 4000) (h1 : 9 ≤ (s.size : Int)) (hs : (s.extract (s.size - 2) s.size).toList = (tailB s).toList) (l0 l1 : List Int) (l2 : List S57) (l3 : List S59) (e0 : Aside0 ((cR s).1 = l0)) (e1 : Aside0 ((dR s).1 = l1)) (e2 : Aside0 ((eR s).1 = l2)) (e3 : Aside0 ((iR s).1 = l3)) : Calls Try.prog 9 #[.string s] w (FinalPost w (readErr s) l0 l1 l2 l3) := by
  have hz1 : IntKind.i64.wrap ((s.size : Int) - 2) = ((s.size - 2 : Nat) : Int) := by rw [IntWalk.i64_in _ (by omega)]; omega
  have hz2 : (7 : Int) ≤ ((s.size - 2 : Nat) : Int) := by omega
  have hz3 : ((s.size - 2 : Nat) : Int) ≤ (s.size : Int) := by omega
  have hr := sumB_range (s.extract 0 (s.size - 2)) (by simp; omega)
  have hm : (sumB (s.extract 0 (s.size - 2))).tmod 65536 = sumB (s.extract 0 (s.size - 2)) % 65536 := by rw [Int.tmod_eq_emod_of_nonneg hr.1]
  have hm0 : 0 ≤ sumB (s.extract 0 (s.size - 2)) % 65536 := by omega
  have hm1 : sumB (s.extract 0 (s.size - 2)) % 65536 < 65536 := by omega
  have c1 : decide ((4000 : Int) < (s.size : Int)) = false := decide_eq_false (by omega)
  have c2 : decide ((s.size : Int) < 9) = false := decide_eq_false (by omega)
  have HS := Aside0.mk (sum_fix (s.extract 0 (s.size - 2)) (by simp; omega))
  have HH := Aside0.mk (high_fix _ hm0 hm1)
  change (s.extract (s.size - 2) s.size).toList = (strOfNums (hiN (sumB (s.extract 0 (s.size - 2)) % 65536) 2)).toList at hs
  generalize strOfNums (hiN (sumB (s.extract 0 (s.size - 2)) % 65536) 2) = T at hs HH
  have hne : ((s.extract (s.size - 2) s.size).toList != T.toList) = false := bne_eq_false_iff_eq.mpr hs
  have hne2 : ((s.extract (s.size - 2) s.size).toList == T.toList) = true := beq_iff_eq.mpr hs
  go_enter Try.func9, Try.ntmps9
  go_wp2_with ((with_reducible refine gate_dst (N := 2) rfl ?_); refine box_event ?hg (N := 2) ?hd (cs := #[.slice none 0 0, .slice none 0 0, .slice none 0 0, .slice none 0 0]) (t := 26) ?hr ?_; (case hd => rfl); (case hg => rfl); (case hr => first | (go_simp; done) | (go_simp; rfl)); intro g2 hg2 w2 hx2 hb2; have HX2 := Aside0.mk hx2; have HB2 := Aside0.mk hb2; have HG2 := Aside0.mk hg2; clear hx2 hb2 hg2; have hczw2_0 : w2.cell? ⟨g2, 0, none⟩ = some (.slice none 0 0) := (blk_cell HX2.out 0).trans rfl; have hfzw2_0 := blk_frozen HX2.out 0; have hczw2_1 : w2.cell? ⟨g2, 1, none⟩ = some (.slice none 0 0) := (blk_cell HX2.out 1).trans rfl; have hfzw2_1 := blk_frozen HX2.out 1; have hczw2_2 : w2.cell? ⟨g2, 2, none⟩ = some (.slice none 0 0) := (blk_cell HX2.out 2).trans rfl; have hfzw2_2 := blk_frozen HX2.out 2; have hczw2_3 : w2.cell? ⟨g2, 3, none⟩ = some (.slice none 0 0) := (blk_cell HX2.out 3).trans rfl; have hfzw2_3 := blk_frozen HX2.out 3)
  go_region_held3 (fun _ => True) (trivial) (first
    | (go_at_call 22; refine (HS.out _).mono ?_; rintro e w3 ⟨rfl, ⟨nd, rfl⟩⟩)
    | (go_at_call 21; refine (HH.out _).mono ?_; rintro e w4 ⟨rfl, hb4⟩; have HX4 : Aside0 (w4.heap[g2]? = some (.cells #[.slice none 0 0, .slice none 0 0, .slice none 0 0, .slice none 0 0] 26 (0, 0))) := ⟨by refine blk_below ?_ hb4; exact HX2.out⟩; have HB4 : Aside0 (Below w.heap.size w w4) := ⟨below_step (by repeat (first | (with_reducible first | exact HB2.out | apply below_alloc | apply pw_below_drewN | apply below_drew1) | exact HB2.out)) hb4⟩; clear hb4; clear hczw2_0 hczw2_1 hczw2_2 hczw2_3 hfzw2_0 hfzw2_1 hfzw2_2 hfzw2_3; have hczw4_0 : w4.cell? ⟨g2, 0, none⟩ = some (.slice none 0 0) := (blk_cell HX4.out 0).trans rfl; have hfzw4_0 := blk_frozen HX4.out 0; have hczw4_1 : w4.cell? ⟨g2, 1, none⟩ = some (.slice none 0 0) := (blk_cell HX4.out 1).trans rfl; have hfzw4_1 := blk_frozen HX4.out 1; have hczw4_2 : w4.cell? ⟨g2, 2, none⟩ = some (.slice none 0 0) := (blk_cell HX4.out 2).trans rfl; have hfzw4_2 := blk_frozen HX4.out 2; have hczw4_3 : w4.cell? ⟨g2, 3, none⟩ = some (.slice none 0 0) := (blk_cell HX4.out 3).trans rfl; have hfzw4_3 := blk_frozen HX4.out 3))
  all_goals go_wp2_with (first
    | ((with_reducible refine gate_dst (N := 4) rfl ?_); refine box_event ?hg (N := 4) ?hd (cs := #[.string ⟨#[]⟩]) (t := 9) ?hr ?_; (case hd => rfl); (case hg => rfl); (case hr => first | (go_simp; done) | (go_simp; rfl)); intro gr hggr w5 hxgr hbgr; have HX5 : Aside0 (w5.heap[g2]? = some (.cells #[.slice none 0 0, .slice none 0 0, .slice none 0 0, .slice none 0 0] 26 (0, 0))) := ⟨by refine blk_below ?_ hbgr; exact HX4.out⟩; have HR5 := Aside0.mk hxgr; have HB5 : Aside0 (Below w.heap.size w w5) := ⟨below_step (by repeat (first | (with_reducible first | exact HB4.out | apply below_alloc | apply pw_below_drewN | apply below_drew1) | exact HB4.out)) hbgr⟩; have HGR : Aside0 (w.heap.size ≤ gr) := ⟨by rw [hggr]; exact (below_size (by repeat (first | (with_reducible first | exact HB4.out | apply below_alloc | apply pw_below_drewN | apply below_drew1) | exact HB4.out)))⟩; have hcr : w5.cell? ⟨gr, 0, none⟩ = some (.string ⟨#[]⟩) := (blk_cell HR5.out 0).trans rfl; have hfr := blk_frozen HR5.out 0; clear hxgr hbgr hggr)
    | ((with_reducible refine gate_dst (N := 6) rfl ?_); refine box_event ?hg (N := 6) ?hd (cs := #[.slice none 0 0, .slice none 0 0, .slice none 0 0, .slice none 0 0]) (t := 26) ?hr ?_; (case hd => rfl); (case hg => rfl); (case hr => first | (go_simp; done) | (go_simp; rfl)); intro gm hggm w6 hxgm hbgm; have HX6 : Aside0 (w6.heap[g2]? = some (.cells #[.slice none 0 0, .slice none 0 0, .slice none 0 0, .slice none 0 0] 26 (0, 0))) := ⟨by refine blk_below ?_ hbgm; exact blk_far HX5.out (blk_ne HX5.out HR5.out (by decide)) _⟩; have HR6 : Aside0 (w6.heap[gr]? = some (.cells #[.string (restR s)] 9 (0, 0))) := ⟨by refine blk_below ?_ hbgm; exact blk_put HR5.out 0 _ rfl⟩; have HM6 := Aside0.mk hxgm; have HB6 : Aside0 (Below w.heap.size w w6) := ⟨below_step (HB5.out.setCell HGR.out _) hbgm⟩; have HGM : Aside0 (w.heap.size ≤ gm ∧ g2 ≠ gm) := ⟨by rw [hggm]; exact ⟨below_size (HB5.out.setCell HGR.out _), by have h5 := blk_lt HX5.out; simp [World.setCell]; omega⟩⟩; clear hcr hfr; clear hxgm hbgm hggm))
  have HA : Aside0 (∃ vc vd, RAll w g2 gr gm w6.heap.size (w6.alloc (.cells #[.pointer (some ⟨gm, 0, none⟩), .pointer (some ⟨gm, 1, none⟩)] 72)) (rJ s 0) vc vd (.slice none 0 0) (.slice none 0 0) (cJ s 0) (dJ s 0) [] []) :=
    ⟨_, _, ⟨blk_alloc HX6.out _, blk_alloc HR6.out _, blk_alloc HM6.out _, blk_new _ _, HGM.out.2, ⟨by have := HB2.out.size; have := HG2.out; omega, HGR.out, HGM.out.1⟩, HB6.out.alloc HB6.out.size _⟩, Kd.R_nil _ _ _ _ _, Kd.R_nil _ _ _ _ _, Kd.R_nil _ _ _ _ _, Kd.R_nil _ _ _ _ _⟩
  clear HX6 HR6 HM6 HB6 HGM HGR HB5 HX5 HR5 HX4 HB4 HX2 HB2 HG2 HS HH hr hm hm0 hm1 hne hne2 hz1 hz2 hz3 hczw4_0 hczw4_1 hczw4_2 hczw4_3 hfzw4_0 hfzw4_1 hfzw4_2 hfzw4_3 c1 c2
  generalize w6.alloc (.cells #[.pointer (some ⟨gm, 0, none⟩), .pointer (some ⟨gm, 1, none⟩)] 72) = wl at HA ⊢
  generalize w6.heap.size = gt at HA ⊢
  have q3 : 3 < s.size := by omega
  have q4 : 4 < s.size := by omega
  have q5 : 5 < s.size := by omega
  have q6 : 6 < s.size := by omega
  have b3 : bt s 3 = ((s[3]'q3).toNat : Int) := bt_at s 3 q3
  have b4 : bt s 4 = ((s[4]'q4).toNat : Int) := bt_at s 4 q4
  have b5 : bt s 5 = ((s[5]'q5).toNat : Int) := bt_at s 5 q5
  have b6 : bt s 6 = ((s[6]'q6).toNat : Int) := bt_at s 6 q6
  have i3 : (3 : Int) < (s.size : Int) := by omega
  have i4 : (4 : Int) < (s.size : Int) := by omega
  have i5 : (5 : Int) < (s.size : Int) := by omega
  have i6 : (6 : Int) < (s.size : Int) := by omega
  go_loopw [46] (fun v46 wr => ∃ j : Nat, j ≤ 2 ∧ v46 = .int .i64 j ∧ Aside0 (∃ vc vd, RAll w g2 gr gm gt wr (rJ s j) vc vd (.slice none 0 0) (.slice none 0 0) (cJ s j) (dJ s j) [] []))
    (fun v46 _ => 2 - (intOf v46).toNat)
  case atStart => exact ⟨0, by decide, rfl, HA⟩
  case round =>
    clear HA
    obtain ⟨j, hj, rfl, HA⟩ := hrel
    by_cases hj2 : j < 2
    · obtain rfl | rfl : j = 0 ∨ j = 1 := by omega
      · rw [show ((0 : Nat) : Int) = 0 from rfl]
        obtain ⟨vc, vd, hA⟩ := HA.out
        have f0 : wr.cell? ⟨gt, 0, none⟩ = some (.pointer (some ⟨gm, 0, none⟩)) := (blk_cell hA.m.t 0).trans rfl
        clear hA
        go_wp2
        obtain ⟨wo, rfl⟩ : ∃ wo : World, wo = wr := ⟨_, rfl⟩
        go_loopw [55] (fun v55 wr => ∃ k : Nat, (k : Int) ≤ bt s 3 ∧ v55 = .int .u8 k ∧ Aside0 (∃ vc vd, RAll w g2 gr gm gt wr (numsR k (restR s)).2 vc vd (.slice none 0 0) (.slice none 0 0) (numsR k (restR s)).1 [] [] []))
          (fun v55 _ => (bt s 3 - intOf v55).toNat)
        case atStart => exact ⟨0, (bt_range s 3).1, rfl, HA⟩
        case round =>
          clear HA
          obtain ⟨k, hk, rfl, HA⟩ := hrel
          have hb8 := (bt_range s 3).2
          by_cases hlt : (k : Int) < bt s 3
          · have hltn : k < (s[3]'q3).toNat := by omega
            obtain ⟨vc, vd, hA⟩ := HA.out
            obtain ⟨rest, hrest⟩ : ∃ rest, (numsR k (restR s)).2 = rest := ⟨_, rfl⟩
            obtain ⟨ns, hns⟩ : ∃ ns, (numsR k (restR s)).1 = ns := ⟨_, rfl⟩
            have hlen : Aside0 (ns.length = k) := ⟨by rw [← hns]; exact numsR_len _ _⟩
            have hk8 : k < 256 := by omega
            have HN : Aside0 ((numsR (k + 1) (restR s)).2 = takeL 4 rest ∧ (numsR (k + 1) (restR s)).1 = ns ++ [deepB (takeT 4 rest) - 2147483648]) := ⟨by rw [← hrest, ← hns]; exact ⟨rfl, rfl⟩⟩
            rw [hrest, hns] at hA
            obtain ⟨A0, c0, rfl⟩ := Kd.R_slice hA.oc
            have hca : wr.cell? ⟨gm, 0, none⟩ = some (.slice A0 ns.length c0) := (blk_cell hA.m.m 0).trans rfl
            have hfa := blk_frozen hA.m.m 0
            have HA1 := Aside0.mk hA
            have hd := deepB_range (takeT 4 rest) (takeT_size 4 rest)
            have HD := Aside0.mk (deep_fix (takeT 4 rest) (takeT_size 4 rest))
            have hx : IntKind.i64.wrap (deepB (takeT 4 rest) - 2147483648) = deepB (takeT 4 rest) - 2147483648 := IntWalk.i64_in _ (by omega)
            have hx2 : wrap64 (deepB (takeT 4 rest) + (-2147483648)) = deepB (takeT 4 rest) - 2147483648 := by unfold wrap64; omega
            clear HA hA hrest hns hd
            go_wp2
            go_region_law (first
              | (refine stepC (w := w) (g2 := g2) (gr := gr) (gm := gm) (gt := gt) (rest := takeL 4 rest) (vc := (.slice A0 ns.length c0)) (vd := vd) (ve := .slice none 0 0) (vi := .slice none 0 0) (c := ns) (d := []) (e := []) (i := []) rfl (.tmp 60) (.tmp 65) rfl (deepB (takeT 4 rest) - 2147483648) ?HA rfl _ rfl ?hbx ?hl ?_; (case HA => repeat (with_reducible first | exact HA2.out | apply RAll.drew | apply RAll.drewN | apply RAll.alloc)); (case hbx => first | exact blk_new _ _ | exact blk_drew (blk_new _ _)); (case hl => (have := hlen.out; omega)); intro A8 c8 w8 hm8 ha8; have HA8 := Aside0.mk ha8; have hc8 : w8.cell? ⟨gm, 0, none⟩ = some (.slice A0 ns.length c0) := (blk_cell hm8.m 0).trans rfl; have hf8 := blk_frozen hm8.m 0; clear hm8 ha8)
              | (go_simp; go_at_call 26; refine (take_any 4 (by decide) gr rest _ ?hr).mono ?_; (case hr => exact HA1.out.m.r); rintro e w1 ⟨rfl, hw1⟩; have HT : Aside0 (RAll w g2 gr gm gt w1 (takeL 4 rest) (.slice A0 ns.length c0) vd (.slice none 0 0) (.slice none 0 0) ns [] [] []) := ⟨by rw [← hw1]; repeat (with_reducible first | exact HA1.out | apply RAll.drew | apply RAll.drewN | apply RAll.takes)⟩; have hct : w1.cell? ⟨gm, 0, none⟩ = some (.slice A0 ns.length c0) := (blk_cell HT.out.m.m 0).trans rfl; clear hw1)
              | (go_simp; go_at_call 27; refine (HD.out _).mono ?_; rintro e w7 ⟨rfl, ⟨nd, hw7⟩⟩; have HA2 : Aside0 (RAll w g2 gr gm gt w7 (takeL 4 rest) (.slice A0 ns.length c0) vd (.slice none 0 0) (.slice none 0 0) ns [] [] []) := ⟨by rw [hw7]; repeat (with_reducible first | exact HT.out | apply RAll.drew | apply RAll.drewN)⟩; have hcd : w7.cell? ⟨gm, 0, none⟩ = some (.slice A0 ns.length c0) := (blk_cell HA2.out.m.m 0).trans rfl; have hcda : ∀ o, (w7.alloc o).cell? ⟨gm, 0, none⟩ = some (.slice A0 ns.length c0) := fun o => cell_al hcd; have hcdb : ∀ o, (w7.drew.alloc o).cell? ⟨gm, 0, none⟩ = some (.slice A0 ns.length c0) := fun o => cell_al hcd; clear hw7))
            all_goals go_wp2
            all_goals (refine ⟨⟨k + 1, by omega, by go_num, ⟨_, _, by rw [HN.out.1, HN.out.2]; exact HA8.out⟩⟩, ?_⟩)
            all_goals (simp [intOf]; omega)
          · have hltn : ¬ k < (s[3]'q3).toNat := by omega
            have hkn : k = nR s 3 := by
              have : nR s 3 = (bt s 3).toNat := rfl
              omega
            have HJ : Aside0 (∃ vc vd, RAll w g2 gr gm gt wr (rJ s 1) vc vd (.slice none 0 0) (.slice none 0 0) (cJ s 1) (dJ s 1) [] []) := ⟨by rw [hkn] at HA; exact HA.out⟩
            clear HA hkn
            go_wp2
            exact ⟨⟨1, by decide, rfl, HJ⟩, by decide⟩
      · rw [show ((1 : Nat) : Int) = 1 from rfl]
        obtain ⟨vc, vd, hA⟩ := HA.out
        have f0 : wr.cell? ⟨gt, 1, none⟩ = some (.pointer (some ⟨gm, 1, none⟩)) := (blk_cell hA.m.t 1).trans rfl
        clear hA
        go_wp2
        obtain ⟨wo, rfl⟩ : ∃ wo : World, wo = wr := ⟨_, rfl⟩
        go_loopw [55] (fun v55 wr => ∃ k : Nat, (k : Int) ≤ bt s 4 ∧ v55 = .int .u8 k ∧ Aside0 (∃ vc vd, RAll w g2 gr gm gt wr (numsR k ((cR s).2)).2 vc vd (.slice none 0 0) (.slice none 0 0) (cR s).1 (numsR k ((cR s).2)).1 [] []))
          (fun v55 _ => (bt s 4 - intOf v55).toNat)
        case atStart => exact ⟨0, (bt_range s 4).1, rfl, HA⟩
        case round =>
          clear HA
          obtain ⟨k, hk, rfl, HA⟩ := hrel
          have hb8 := (bt_range s 4).2
          by_cases hlt : (k : Int) < bt s 4
          · have hltn : k < (s[4]'q4).toNat := by omega
            obtain ⟨vc, vd, hA⟩ := HA.out
            obtain ⟨rest, hrest⟩ : ∃ rest, (numsR k ((cR s).2)).2 = rest := ⟨_, rfl⟩
            obtain ⟨ns, hns⟩ : ∃ ns, (numsR k ((cR s).2)).1 = ns := ⟨_, rfl⟩
            have hlen : Aside0 (ns.length = k) := ⟨by rw [← hns]; exact numsR_len _ _⟩
            have hk8 : k < 256 := by omega
            have HN : Aside0 ((numsR (k + 1) ((cR s).2)).2 = takeL 4 rest ∧ (numsR (k + 1) ((cR s).2)).1 = ns ++ [deepB (takeT 4 rest) - 2147483648]) := ⟨by rw [← hrest, ← hns]; exact ⟨rfl, rfl⟩⟩
            rw [hrest, hns] at hA
            obtain ⟨A0, c0, rfl⟩ := Kd.R_slice hA.od
            have hca : wr.cell? ⟨gm, 1, none⟩ = some (.slice A0 ns.length c0) := (blk_cell hA.m.m 1).trans rfl
            have hfa := blk_frozen hA.m.m 1
            have HA1 := Aside0.mk hA
            have hd := deepB_range (takeT 4 rest) (takeT_size 4 rest)
            have HD := Aside0.mk (deep_fix (takeT 4 rest) (takeT_size 4 rest))
            have hx : IntKind.i64.wrap (deepB (takeT 4 rest) - 2147483648) = deepB (takeT 4 rest) - 2147483648 := IntWalk.i64_in _ (by omega)
            have hx2 : wrap64 (deepB (takeT 4 rest) + (-2147483648)) = deepB (takeT 4 rest) - 2147483648 := by unfold wrap64; omega
            clear HA hA hrest hns hd
            go_wp2
            go_region_law (first
              | (refine stepD (w := w) (g2 := g2) (gr := gr) (gm := gm) (gt := gt) (rest := takeL 4 rest) (vc := vc) (vd := (.slice A0 ns.length c0)) (ve := .slice none 0 0) (vi := .slice none 0 0) (c := (cR s).1) (d := ns) (e := []) (i := []) rfl (.tmp 60) (.tmp 65) rfl (deepB (takeT 4 rest) - 2147483648) ?HA rfl _ rfl ?hbx ?hl ?_; (case HA => repeat (with_reducible first | exact HA2.out | apply RAll.drew | apply RAll.drewN | apply RAll.alloc)); (case hbx => first | exact blk_new _ _ | exact blk_drew (blk_new _ _)); (case hl => (have := hlen.out; omega)); intro A8 c8 w8 hm8 ha8; have HA8 := Aside0.mk ha8; have hc8 : w8.cell? ⟨gm, 1, none⟩ = some (.slice A0 ns.length c0) := (blk_cell hm8.m 1).trans rfl; have hf8 := blk_frozen hm8.m 1; clear hm8 ha8)
              | (go_simp; go_at_call 26; refine (take_any 4 (by decide) gr rest _ ?hr).mono ?_; (case hr => exact HA1.out.m.r); rintro e w1 ⟨rfl, hw1⟩; have HT : Aside0 (RAll w g2 gr gm gt w1 (takeL 4 rest) vc (.slice A0 ns.length c0) (.slice none 0 0) (.slice none 0 0) (cR s).1 ns [] []) := ⟨by rw [← hw1]; repeat (with_reducible first | exact HA1.out | apply RAll.drew | apply RAll.drewN | apply RAll.takes)⟩; have hct : w1.cell? ⟨gm, 1, none⟩ = some (.slice A0 ns.length c0) := (blk_cell HT.out.m.m 1).trans rfl; clear hw1)
              | (go_simp; go_at_call 27; refine (HD.out _).mono ?_; rintro e w7 ⟨rfl, ⟨nd, hw7⟩⟩; have HA2 : Aside0 (RAll w g2 gr gm gt w7 (takeL 4 rest) vc (.slice A0 ns.length c0) (.slice none 0 0) (.slice none 0 0) (cR s).1 ns [] []) := ⟨by rw [hw7]; repeat (with_reducible first | exact HT.out | apply RAll.drew | apply RAll.drewN)⟩; have hcd : w7.cell? ⟨gm, 1, none⟩ = some (.slice A0 ns.length c0) := (blk_cell HA2.out.m.m 1).trans rfl; have hcda : ∀ o, (w7.alloc o).cell? ⟨gm, 1, none⟩ = some (.slice A0 ns.length c0) := fun o => cell_al hcd; have hcdb : ∀ o, (w7.drew.alloc o).cell? ⟨gm, 1, none⟩ = some (.slice A0 ns.length c0) := fun o => cell_al hcd; clear hw7))
            all_goals go_wp2
            all_goals (refine ⟨⟨k + 1, by omega, by go_num, ⟨_, _, by rw [HN.out.1, HN.out.2]; exact HA8.out⟩⟩, ?_⟩)
            all_goals (simp [intOf]; omega)
          · have hltn : ¬ k < (s[4]'q4).toNat := by omega
            have hkn : k = nR s 4 := by
              have : nR s 4 = (bt s 4).toNat := rfl
              omega
            have HJ : Aside0 (∃ vc vd, RAll w g2 gr gm gt wr (rJ s 2) vc vd (.slice none 0 0) (.slice none 0 0) (cJ s 2) (dJ s 2) [] []) := ⟨by rw [hkn] at HA; exact HA.out⟩
            clear HA hkn
            go_wp2
            exact ⟨⟨2, by decide, rfl, HJ⟩, by decide⟩
    · obtain rfl : j = 2 := by omega
      have HA0 : Aside0 (∃ vc vd ve, RAll w g2 gr gm gt wr (labsR 0 (dR s).2).2 vc vd ve (.slice none 0 0) (cR s).1 (dR s).1 (labsR 0 (dR s).2).1 []) := ⟨by obtain ⟨a, b, h⟩ := HA.out; exact ⟨a, b, _, h⟩⟩
      clear HA
      have HA := HA0; clear HA0
      rw [show ((2 : Nat) : Int) = 2 from rfl]
      go_wp2
      obtain ⟨wo, rfl⟩ : ∃ wo : World, wo = wr := ⟨_, rfl⟩
      go_loopw [72] (fun v55 wr => ∃ k : Nat, (k : Int) ≤ bt s 5 ∧ v55 = .int .u8 k ∧ Aside0 (∃ vc vd ve, RAll w g2 gr gm gt wr (labsR k ((dR s).2)).2 vc vd ve (.slice none 0 0) (cR s).1 (dR s).1 (labsR k ((dR s).2)).1 []))
        (fun v55 _ => (bt s 5 - intOf v55).toNat)
      case atStart => exact ⟨0, (bt_range s 5).1, rfl, HA⟩
      case round =>
        clear HA
        obtain ⟨k, hk, rfl, HA⟩ := hrel
        have hb8 := (bt_range s 5).2
        by_cases hlt : (k : Int) < bt s 5
        · have hltn : k < (s[5]'q5).toNat := by omega
          obtain ⟨vc, vd, ve, hA⟩ := HA.out
          obtain ⟨rest, hrest⟩ : ∃ rest, (labsR k ((dR s).2)).2 = rest := ⟨_, rfl⟩
          obtain ⟨ns, hns⟩ : ∃ ns, (labsR k ((dR s).2)).1 = ns := ⟨_, rfl⟩
          have hlen : Aside0 (ns.length = k) := ⟨by rw [← hns]; exact labsR_len _ _⟩
          have hk8 : k < 256 := by omega
          obtain ⟨n, hn⟩ : ∃ n, deepB (takeT 1 rest) = n := ⟨_, rfl⟩
          obtain ⟨m, hm⟩ : ∃ m, deepB (takeT 1 (takeL n (takeL 1 rest))) = m := ⟨_, rfl⟩
          have HN : Aside0 ((labsR (k + 1) ((dR s).2)).2 = (takeL 1 (takeL n (takeL 1 rest))) ∧ (labsR (k + 1) ((dR s).2)).1 = ns ++ [(⟨takeT n (takeL 1 rest), m⟩ : S57)]) := ⟨by subst hm; subst hn; rw [← hrest, ← hns]; exact ⟨rfl, rfl⟩⟩
          rw [hrest, hns] at hA
          obtain ⟨A0, c0, rfl⟩ := Kd.R_slice hA.oe
          have HA1 := Aside0.mk hA
          have hn0 : 0 ≤ n := by rw [← hn]; exact (deepB_range (takeT 1 rest) (Nat.le_trans (takeT_size 1 rest) (by decide))).1
          have HD := Aside0.mk (deep_fix (takeT 1 rest) (Nat.le_trans (takeT_size 1 rest) (by decide)))
          have HD2 := Aside0.mk (deep_fix (takeT 1 (takeL n (takeL 1 rest))) (Nat.le_trans (takeT_size 1 (takeL n (takeL 1 rest))) (by decide)))
          rw [hn] at HD
          rw [hm] at HD2
          clear HA hA hrest hns hn hm
          go_wp2_with (first
            | (go_at_call 26; (with_reducible refine (take_any 1 one_nonneg gr rest _ ?hr).mono ?_); (case hr => exact HA1.out.m.r); rintro e w1 ⟨rfl, hw1⟩; have HT : Aside0 (RAll w g2 gr gm gt w1 (takeL 1 rest) vc vd (.slice A0 ns.length c0) (.slice none 0 0) (cR s).1 (dR s).1 ns []) := ⟨by rw [← hw1]; repeat (with_reducible first | exact HA1.out | apply RAll.drew | apply RAll.drewN | apply RAll.takes)⟩; clear hw1)
            | (go_at_call 27; refine (HD.out _).mono ?_; rintro e w7 ⟨rfl, ⟨nd, hw7⟩⟩; have HA2 : Aside0 (RAll w g2 gr gm gt w7 (takeL 1 rest) vc vd (.slice A0 ns.length c0) (.slice none 0 0) (cR s).1 (dR s).1 ns []) := ⟨by rw [hw7]; repeat (with_reducible first | exact HT.out | apply RAll.drew | apply RAll.drewN)⟩; clear hw7)
            | (go_at_call 26; refine (take_any (n) hn0 gr (takeL 1 rest) _ ?hr).mono ?_; (case hr => exact HA2.out.m.r); rintro e w9 ⟨rfl, hw9⟩; have HA3 : Aside0 (RAll w g2 gr gm gt w9 (takeL n (takeL 1 rest)) vc vd (.slice A0 ns.length c0) (.slice none 0 0) (cR s).1 (dR s).1 ns []) := ⟨by rw [← hw9]; repeat (with_reducible first | exact HA2.out | apply RAll.drew | apply RAll.drewN | apply RAll.takes)⟩; have hca : w9.cell? ⟨gm, 2, none⟩ = some (.slice A0 ns.length c0) := (blk_cell HA3.out.m.m 2).trans rfl; have hfa := blk_frozen HA3.out.m.m 2; clear hw9 HA2 HT HA1))
          go_region_law (first
            | (refine stepE (w := w) (g2 := g2) (gr := gr) (gm := gm) (gt := gt) (rest := (takeL 1 (takeL n (takeL 1 rest)))) (vc := vc) (vd := vd) (ve := (.slice A0 ns.length c0)) (vi := (.slice none 0 0)) (c := (cR s).1) (d := (dR s).1) (e := ns) (i := []) rfl (.tmp 80) (.tmp 86) rfl (⟨takeT n (takeL 1 rest), m⟩ : S57) ?HA rfl _ rfl ?hbx ?hl ?_; (case HA => repeat (with_reducible first | exact HA5.out | apply RAll.drew | apply RAll.drewN | apply RAll.alloc)); (case hbx => first | exact blk_new _ _ | exact blk_drew (blk_new _ _)); (case hl => (have := hlen.out; omega)); intro A8 c8 w8 hm8 ha8; have HA8 := Aside0.mk ha8; have hc8 : w8.cell? ⟨gm, 2, none⟩ = some (.slice A0 ns.length c0) := (blk_cell hm8.m 2).trans rfl; have hf8 := blk_frozen hm8.m 2; clear hm8 ha8)
            | (go_simp; go_at_call 26; refine (take_any 1 (by decide) gr (takeL n (takeL 1 rest)) _ ?hr).mono ?_; (case hr => exact HA3.out.m.r); rintro e w1 ⟨rfl, hw1⟩; have HA4 : Aside0 (RAll w g2 gr gm gt w1 (takeL 1 (takeL n (takeL 1 rest))) vc vd (.slice A0 ns.length c0) (.slice none 0 0) (cR s).1 (dR s).1 ns []) := ⟨by rw [← hw1]; repeat (with_reducible first | exact HA3.out | apply RAll.drew | apply RAll.drewN | apply RAll.takes)⟩; have hct : w1.cell? ⟨gm, 2, none⟩ = some (.slice A0 ns.length c0) := (blk_cell HA4.out.m.m 2).trans rfl; clear hw1)
            | (go_simp; go_at_call 27; refine (HD2.out _).mono ?_; rintro e w7 ⟨rfl, ⟨nd, hw7⟩⟩; have HA5 : Aside0 (RAll w g2 gr gm gt w7 (takeL 1 (takeL n (takeL 1 rest))) vc vd (.slice A0 ns.length c0) (.slice none 0 0) (cR s).1 (dR s).1 ns []) := ⟨by rw [hw7]; repeat (with_reducible first | exact HA4.out | apply RAll.drew | apply RAll.drewN)⟩; have hcd : w7.cell? ⟨gm, 2, none⟩ = some (.slice A0 ns.length c0) := (blk_cell HA5.out.m.m 2).trans rfl; have hcda : ∀ o, (w7.alloc o).cell? ⟨gm, 2, none⟩ = some (.slice A0 ns.length c0) := fun o => cell_al hcd; have hcdb : ∀ o, (w7.drew.alloc o).cell? ⟨gm, 2, none⟩ = some (.slice A0 ns.length c0) := fun o => cell_al hcd; clear hw7))
          all_goals go_wp2
          all_goals (refine ⟨⟨k + 1, by omega, by go_num, ⟨_, _, _, by rw [HN.out.1, HN.out.2]; exact HA8.out⟩⟩, ?_⟩)
          all_goals (simp [intOf]; omega)
        · have hltn : ¬ k < (s[5]'q5).toNat := by omega
          have hkn : k = nR s 5 := by
            have : nR s 5 = (bt s 5).toNat := rfl
            omega
          have HJ : Aside0 (∃ vc vd ve, RAll w g2 gr gm gt wr (eR s).2 vc vd ve (.slice none 0 0) (cR s).1 (dR s).1 (eR s).1 []) := ⟨by rw [hkn] at HA; exact HA.out⟩
          clear HA hkn
          
          have HA := HJ; clear HJ
          obtain ⟨vc0, vd0, ve0, hA0⟩ := HA.out
          clear hA0 vc0 vd0 ve0
          have HA0 : Aside0 (∃ vc vd ve vi, RAll w g2 gr gm gt wr (impsR 0 (eR s).2).2 vc vd ve vi (cR s).1 (dR s).1 (eR s).1 (impsR 0 (eR s).2).1) := ⟨by obtain ⟨a, b, c, h⟩ := HA.out; exact ⟨a, b, c, _, h⟩⟩
          clear HA
          have HA := HA0; clear HA0
          go_wp2
          obtain ⟨wo, rfl⟩ : ∃ wo : World, wo = wr := ⟨_, rfl⟩
          go_loopw [92] (fun v55 wr => ∃ k : Nat, (k : Int) ≤ bt s 6 ∧ v55 = .int .u8 k ∧ Aside0 (∃ vc vd ve vi, RAll w g2 gr gm gt wr (impsR k ((eR s).2)).2 vc vd ve vi (cR s).1 (dR s).1 (eR s).1 (impsR k ((eR s).2)).1))
            (fun v55 _ => (bt s 6 - intOf v55).toNat)
          case atStart => exact ⟨0, (bt_range s 6).1, rfl, HA⟩
          case round =>
            clear HA
            obtain ⟨k, hk, rfl, HA⟩ := hrel
            have hb8 := (bt_range s 6).2
            by_cases hlt : (k : Int) < bt s 6
            · have hltn : k < (s[6]'q6).toNat := by omega
              obtain ⟨vc, vd, ve, vi, hA⟩ := HA.out
              obtain ⟨rest, hrest⟩ : ∃ rest, (impsR k ((eR s).2)).2 = rest := ⟨_, rfl⟩
              obtain ⟨ns, hns⟩ : ∃ ns, (impsR k ((eR s).2)).1 = ns := ⟨_, rfl⟩
              have hlen : Aside0 (ns.length = k) := ⟨by rw [← hns]; exact impsR_len _ _⟩
              have hk8 : k < 256 := by omega
              obtain ⟨n, hn⟩ : ∃ n, deepB (takeT 1 rest) = n := ⟨_, rfl⟩
              obtain ⟨m, hm⟩ : ∃ m, deepB (takeT 1 (takeL n (takeL 1 rest))) = m := ⟨_, rfl⟩
              have HN : Aside0 ((impsR (k + 1) ((eR s).2)).2 = (takeL 1 (takeL n (takeL 1 rest))) ∧ (impsR (k + 1) ((eR s).2)).1 = ns ++ [(⟨takeT n (takeL 1 rest), m⟩ : S59)]) := ⟨by subst hm; subst hn; rw [← hrest, ← hns]; exact ⟨rfl, rfl⟩⟩
              rw [hrest, hns] at hA
              obtain ⟨A0, c0, rfl⟩ := Kd.R_slice hA.oi
              have HA1 := Aside0.mk hA
              have hn0 : 0 ≤ n := by rw [← hn]; exact (deepB_range (takeT 1 rest) (Nat.le_trans (takeT_size 1 rest) (by decide))).1
              have HD := Aside0.mk (deep_fix (takeT 1 rest) (Nat.le_trans (takeT_size 1 rest) (by decide)))
              have HD2 := Aside0.mk (deep_fix (takeT 1 (takeL n (takeL 1 rest))) (Nat.le_trans (takeT_size 1 (takeL n (takeL 1 rest))) (by decide)))
              rw [hn] at HD
              rw [hm] at HD2
              clear HA hA hrest hns hn hm
              go_wp2_with (first
                | (go_at_call 26; (with_reducible refine (take_any 1 one_nonneg gr rest _ ?hr).mono ?_); (case hr => exact HA1.out.m.r); rintro e w1 ⟨rfl, hw1⟩; have HT : Aside0 (RAll w g2 gr gm gt w1 (takeL 1 rest) vc vd ve (.slice A0 ns.length c0) (cR s).1 (dR s).1 (eR s).1 ns) := ⟨by rw [← hw1]; repeat (with_reducible first | exact HA1.out | apply RAll.drew | apply RAll.drewN | apply RAll.takes)⟩; clear hw1)
                | (go_at_call 27; refine (HD.out _).mono ?_; rintro e w7 ⟨rfl, ⟨nd, hw7⟩⟩; have HA2 : Aside0 (RAll w g2 gr gm gt w7 (takeL 1 rest) vc vd ve (.slice A0 ns.length c0) (cR s).1 (dR s).1 (eR s).1 ns) := ⟨by rw [hw7]; repeat (with_reducible first | exact HT.out | apply RAll.drew | apply RAll.drewN)⟩; clear hw7)
                | (go_at_call 26; refine (take_any (n) hn0 gr (takeL 1 rest) _ ?hr).mono ?_; (case hr => exact HA2.out.m.r); rintro e w9 ⟨rfl, hw9⟩; have HA3 : Aside0 (RAll w g2 gr gm gt w9 (takeL n (takeL 1 rest)) vc vd ve (.slice A0 ns.length c0) (cR s).1 (dR s).1 (eR s).1 ns) := ⟨by rw [← hw9]; repeat (with_reducible first | exact HA2.out | apply RAll.drew | apply RAll.drewN | apply RAll.takes)⟩; have hca : w9.cell? ⟨gm, 3, none⟩ = some (.slice A0 ns.length c0) := (blk_cell HA3.out.m.m 3).trans rfl; have hfa := blk_frozen HA3.out.m.m 3; clear hw9 HA2 HT HA1))
              go_region_law (first
                | (refine stepI (w := w) (g2 := g2) (gr := gr) (gm := gm) (gt := gt) (rest := (takeL 1 (takeL n (takeL 1 rest)))) (vc := vc) (vd := vd) (ve := ve) (vi := (.slice A0 ns.length c0)) (c := (cR s).1) (d := (dR s).1) (e := (eR s).1) (i := ns) rfl (.tmp 100) (.tmp 106) rfl (⟨takeT n (takeL 1 rest), m⟩ : S59) ?HA rfl _ rfl ?hbx ?hl ?_; (case HA => repeat (with_reducible first | exact HA5.out | apply RAll.drew | apply RAll.drewN | apply RAll.alloc)); (case hbx => first | exact blk_new _ _ | exact blk_drew (blk_new _ _)); (case hl => (have := hlen.out; omega)); intro A8 c8 w8 hm8 ha8; have HA8 := Aside0.mk ha8; have hc8 : w8.cell? ⟨gm, 3, none⟩ = some (.slice A0 ns.length c0) := (blk_cell hm8.m 3).trans rfl; have hf8 := blk_frozen hm8.m 3; clear hm8 ha8)
                | (go_simp; go_at_call 26; refine (take_any 1 (by decide) gr (takeL n (takeL 1 rest)) _ ?hr).mono ?_; (case hr => exact HA3.out.m.r); rintro e w1 ⟨rfl, hw1⟩; have HA4 : Aside0 (RAll w g2 gr gm gt w1 (takeL 1 (takeL n (takeL 1 rest))) vc vd ve (.slice A0 ns.length c0) (cR s).1 (dR s).1 (eR s).1 ns) := ⟨by rw [← hw1]; repeat (with_reducible first | exact HA3.out | apply RAll.drew | apply RAll.drewN | apply RAll.takes)⟩; have hct : w1.cell? ⟨gm, 3, none⟩ = some (.slice A0 ns.length c0) := (blk_cell HA4.out.m.m 3).trans rfl; clear hw1)
                | (go_simp; go_at_call 27; refine (HD2.out _).mono ?_; rintro e w7 ⟨rfl, ⟨nd, hw7⟩⟩; have HA5 : Aside0 (RAll w g2 gr gm gt w7 (takeL 1 (takeL n (takeL 1 rest))) vc vd ve (.slice A0 ns.length c0) (cR s).1 (dR s).1 (eR s).1 ns) := ⟨by rw [hw7]; repeat (with_reducible first | exact HA4.out | apply RAll.drew | apply RAll.drewN)⟩; have hcd : w7.cell? ⟨gm, 3, none⟩ = some (.slice A0 ns.length c0) := (blk_cell HA5.out.m.m 3).trans rfl; have hcda : ∀ o, (w7.alloc o).cell? ⟨gm, 3, none⟩ = some (.slice A0 ns.length c0) := fun o => cell_al hcd; have hcdb : ∀ o, (w7.drew.alloc o).cell? ⟨gm, 3, none⟩ = some (.slice A0 ns.length c0) := fun o => cell_al hcd; clear hw7))
              all_goals go_wp2
              all_goals (refine ⟨⟨k + 1, by omega, by go_num, ⟨_, _, _, _, by rw [HN.out.1, HN.out.2]; exact HA8.out⟩⟩, ?_⟩)
              all_goals (simp [intOf]; omega)
            · have hltn : ¬ k < (s[6]'q6).toNat := by omega
              have hkn : k = nR s 6 := by
                have : nR s 6 = (bt s 6).toNat := rfl
                omega
              have HJ : Aside0 (∃ vc vd ve vi, RAll w g2 gr gm gt wr (iR s).2 vc vd ve vi (cR s).1 (dR s).1 (eR s).1 (iR s).1) := ⟨by rw [hkn] at HA; exact HA.out⟩
              clear HA hkn
              
              obtain ⟨vc, vd, ve, vi, hA⟩ := HJ.out
              clear HJ
              have hE0 : readErr s = if modCheck (cR s).1 (dR s).1 (eR s).1 (iR s).1 = 0 ∧ (packB (cR s).1 (dR s).1 (eR s).1 (iR s).1).toList = s.toList then 0 else 5 := rfl
              generalize (iR s).2 = rest at hA
              rw [e0.out, e1.out, e2.out, e3.out] at hA hE0
              clear e0 e1 e2 e3
              obtain ⟨Ac, cc, rfl, hlc, hrc⟩ := Kd.R_reads hA.oc
              obtain ⟨Ad, cd, rfl, hld, hrd⟩ := Kd.R_reads hA.od
              obtain ⟨Ae, ce, rfl, hle, hre⟩ := Kd.R_reads hA.oe
              obtain ⟨Ai, ci, rfl, hli, hri⟩ := Kd.R_reads hA.oi
              have HP := Aside0.mk (pack_fix l0 l1 l2 l3 hrc hlc hrd hld hre hle hri hli)
              have HA1 := Aside0.mk hA
              have mc0 : wr.cell? ⟨gm, 0, none⟩ = some (.slice Ac l0.length cc) := (blk_cell hA.m.m 0).trans rfl
              have mf0 := blk_frozen hA.m.m 0
              have mc1 : wr.cell? ⟨gm, 1, none⟩ = some (.slice Ad l1.length cd) := (blk_cell hA.m.m 1).trans rfl
              have mf1 := blk_frozen hA.m.m 1
              have mc2 : wr.cell? ⟨gm, 2, none⟩ = some (.slice Ae l2.length ce) := (blk_cell hA.m.m 2).trans rfl
              have mf2 := blk_frozen hA.m.m 2
              have mc3 : wr.cell? ⟨gm, 3, none⟩ = some (.slice Ai l3.length ci) := (blk_cell hA.m.m 3).trans rfl
              have mf3 := blk_frozen hA.m.m 3
              clear hA hlc hrc hld hrd hle hre hli hri
              have hP0 : Aside0 (packS l0 l1 l2 l3 = if modCheck l0 l1 l2 l3 = 0 then packB l0 l1 l2 l3 else ⟨#[]⟩) := ⟨rfl⟩
              generalize hPS : packS l0 l1 l2 l3 = PS at HP hP0
              generalize hM : modCheck l0 l1 l2 l3 = M at HP hP0 hE0
              clear hPS hM
              by_cases hM0 : M = 0
              · subst hM0
                have hPB := hP0.out
                rw [if_pos rfl] at hPB
                rw [← hPB] at hE0
                clear hP0
                by_cases hPs : PS.toList = s.toList
                · have hE : Aside0 (readErr s = 0) := ⟨by rw [hE0, if_pos ⟨rfl, hPs⟩]⟩
                  have d1 : (PS.toList != s.toList) = false := bne_eq_false_iff_eq.mpr hPs
                  have d2 : (PS.toList == s.toList) = true := beq_iff_eq.mpr hPs
                  clear hE0 hPs hPB
                  go_wp2_with (go_at_call 7; (with_reducible refine HP.out.mono ?_); rintro e w7 ⟨rfl, hb7⟩; have HA7 : Aside0 (RAll w g2 gr gm gt w7 rest (.slice Ac l0.length cc) (.slice Ad l1.length cd) (.slice Ae l2.length ce) (.slice Ai l3.length ci) l0 l1 l2 l3) := ⟨HA1.out.later hb7⟩; clear hb7; clear mc0 mf0 mc1 mf1 mc2 mf2 mc3 mf3; have nc0 : w7.cell? ⟨gm, 0, none⟩ = some (.slice Ac l0.length cc) := (blk_cell HA7.out.m.m 0).trans rfl; have nf0 := blk_frozen HA7.out.m.m 0; have nc1 : w7.cell? ⟨gm, 1, none⟩ = some (.slice Ad l1.length cd) := (blk_cell HA7.out.m.m 1).trans rfl; have nf1 := blk_frozen HA7.out.m.m 1; have nc2 : w7.cell? ⟨gm, 2, none⟩ = some (.slice Ae l2.length ce) := (blk_cell HA7.out.m.m 2).trans rfl; have nf2 := blk_frozen HA7.out.m.m 2; have nc3 : w7.cell? ⟨gm, 3, none⟩ = some (.slice Ai l3.length ci) := (blk_cell HA7.out.m.m 3).trans rfl; have nf3 := blk_frozen HA7.out.m.m 3; have rc0 : w7.cell? ⟨g2, 0, none⟩ = some (.slice none 0 0) := (blk_cell HA7.out.m.res 0).trans rfl; have rf0 := blk_frozen HA7.out.m.res 0; have rc1 : w7.cell? ⟨g2, 1, none⟩ = some (.slice none 0 0) := (blk_cell HA7.out.m.res 1).trans rfl; have rf1 := blk_frozen HA7.out.m.res 1; have rc2 : w7.cell? ⟨g2, 2, none⟩ = some (.slice none 0 0) := (blk_cell HA7.out.m.res 2).trans rfl; have rf2 := blk_frozen HA7.out.m.res 2; have rc3 : w7.cell? ⟨g2, 3, none⟩ = some (.slice none 0 0) := (blk_cell HA7.out.m.res 3).trans rfl; have rf3 := blk_frozen HA7.out.m.res 3)
                  refine bodyPost_ret (results_ct rfl _ _ g2 26 #[.slice Ac l0.length cc, .slice Ad l1.length cd, .slice Ae l2.length ce, .slice Ai l3.length ci] (0, 0) _ rfl (put_four HA7.out.m.res) Try.underlying26 rfl (by kernel_rfl)) rfl ?_
                  refine final_ok hE.out ?_
                  exact ⟨_, _, _, _, rfl, row_four HA7.out.oc HA7.out.m.res (by decide), row_four HA7.out.od HA7.out.m.res (by decide), row_four HA7.out.oe HA7.out.m.res (by decide), row_four HA7.out.oi HA7.out.m.res (by decide), put_below HA7.out.m.below HA7.out.m.low.1⟩
                · have hE : Aside0 (¬ readErr s = 0) := ⟨by rw [hE0, if_neg (fun h => hPs h.2)]; decide⟩
                  have d1 : (PS.toList != s.toList) = true := bne_iff_ne.mpr hPs
                  have d2 : (PS.toList == s.toList) = false := beq_eq_false_iff_ne.mpr hPs
                  clear hE0 hPs hPB
                  go_wp2_with (go_at_call 7; (with_reducible refine HP.out.mono ?_); rintro e w7 ⟨rfl, hb7⟩; have HA7 : Aside0 (RAll w g2 gr gm gt w7 rest (.slice Ac l0.length cc) (.slice Ad l1.length cd) (.slice Ae l2.length ce) (.slice Ai l3.length ci) l0 l1 l2 l3) := ⟨HA1.out.later hb7⟩; clear hb7; clear mc0 mf0 mc1 mf1 mc2 mf2 mc3 mf3; have nc0 : w7.cell? ⟨gm, 0, none⟩ = some (.slice Ac l0.length cc) := (blk_cell HA7.out.m.m 0).trans rfl; have nf0 := blk_frozen HA7.out.m.m 0; have nc1 : w7.cell? ⟨gm, 1, none⟩ = some (.slice Ad l1.length cd) := (blk_cell HA7.out.m.m 1).trans rfl; have nf1 := blk_frozen HA7.out.m.m 1; have nc2 : w7.cell? ⟨gm, 2, none⟩ = some (.slice Ae l2.length ce) := (blk_cell HA7.out.m.m 2).trans rfl; have nf2 := blk_frozen HA7.out.m.m 2; have nc3 : w7.cell? ⟨gm, 3, none⟩ = some (.slice Ai l3.length ci) := (blk_cell HA7.out.m.m 3).trans rfl; have nf3 := blk_frozen HA7.out.m.m 3; have rc0 : w7.cell? ⟨g2, 0, none⟩ = some (.slice none 0 0) := (blk_cell HA7.out.m.res 0).trans rfl; have rf0 := blk_frozen HA7.out.m.res 0; have rc1 : w7.cell? ⟨g2, 1, none⟩ = some (.slice none 0 0) := (blk_cell HA7.out.m.res 1).trans rfl; have rf1 := blk_frozen HA7.out.m.res 1; have rc2 : w7.cell? ⟨g2, 2, none⟩ = some (.slice none 0 0) := (blk_cell HA7.out.m.res 2).trans rfl; have rf2 := blk_frozen HA7.out.m.res 2; have rc3 : w7.cell? ⟨g2, 3, none⟩ = some (.slice none 0 0) := (blk_cell HA7.out.m.res 3).trans rfl; have rf3 := blk_frozen HA7.out.m.res 3)
                  refine bodyPost_ret (results_ct rfl _ _ g2 26 #[.slice none 0 0, .slice none 0 0, .slice none 0 0, .slice none 0 0] (0, 0) _ rfl (put_nils HA7.out.m.res) Try.underlying26 rfl (by kernel_rfl)) rfl ?_
                  refine final_no hE.out ?_
                  exact post_nil 5 (put_below HA7.out.m.below HA7.out.m.low.1)
              · have hE : Aside0 (¬ readErr s = 0) := ⟨by rw [hE0, if_neg (fun h => hM0 h.1)]; decide⟩
                have d1 : (M != 0) = true := bne_iff_ne.mpr hM0
                have d2 : (M == 0) = false := beq_eq_false_iff_ne.mpr hM0
                clear hE0 hP0
                go_wp2_with (go_at_call 7; (with_reducible refine HP.out.mono ?_); rintro e w7 ⟨rfl, hb7⟩; have HA7 : Aside0 (RAll w g2 gr gm gt w7 rest (.slice Ac l0.length cc) (.slice Ad l1.length cd) (.slice Ae l2.length ce) (.slice Ai l3.length ci) l0 l1 l2 l3) := ⟨HA1.out.later hb7⟩; clear hb7; clear mc0 mf0 mc1 mf1 mc2 mf2 mc3 mf3; have nc0 : w7.cell? ⟨gm, 0, none⟩ = some (.slice Ac l0.length cc) := (blk_cell HA7.out.m.m 0).trans rfl; have nf0 := blk_frozen HA7.out.m.m 0; have nc1 : w7.cell? ⟨gm, 1, none⟩ = some (.slice Ad l1.length cd) := (blk_cell HA7.out.m.m 1).trans rfl; have nf1 := blk_frozen HA7.out.m.m 1; have nc2 : w7.cell? ⟨gm, 2, none⟩ = some (.slice Ae l2.length ce) := (blk_cell HA7.out.m.m 2).trans rfl; have nf2 := blk_frozen HA7.out.m.m 2; have nc3 : w7.cell? ⟨gm, 3, none⟩ = some (.slice Ai l3.length ci) := (blk_cell HA7.out.m.m 3).trans rfl; have nf3 := blk_frozen HA7.out.m.m 3; have rc0 : w7.cell? ⟨g2, 0, none⟩ = some (.slice none 0 0) := (blk_cell HA7.out.m.res 0).trans rfl; have rf0 := blk_frozen HA7.out.m.res 0; have rc1 : w7.cell? ⟨g2, 1, none⟩ = some (.slice none 0 0) := (blk_cell HA7.out.m.res 1).trans rfl; have rf1 := blk_frozen HA7.out.m.res 1; have rc2 : w7.cell? ⟨g2, 2, none⟩ = some (.slice none 0 0) := (blk_cell HA7.out.m.res 2).trans rfl; have rf2 := blk_frozen HA7.out.m.res 2; have rc3 : w7.cell? ⟨g2, 3, none⟩ = some (.slice none 0 0) := (blk_cell HA7.out.m.res 3).trans rfl; have rf3 := blk_frozen HA7.out.m.res 3)
                refine bodyPost_ret (results_ct rfl _ _ g2 26 #[.slice none 0 0, .slice none 0 0, .slice none 0 0, .slice none 0 0] (0, 0) _ rfl (put_nils HA7.out.m.res) Try.underlying26 rfl (by kernel_rfl)) rfl ?_
                refine final_no hE.out ?_
                exact post_nil 5 (put_below HA7.out.m.below HA7.out.m.low.1)

end Go.Proofs.Ytljjdkjmciheeaa.P
