/- strings.Map over a text of ASCII letters, by a function value that keeps a letter or drops it. -/
import Derived.Test.YtljjdkjmciheeaaDoorPd
import Derived.Shelf.Strings.MapGrows
namespace Go.Proofs.YtljjdkjmciheeaaDoor.P
open Go.RowKit Go.Lib

theorem b_writeString (B b : Nat) (bs : List Value) (s : ByteArray) (w : World) (h : Lib.IsBuilderF 71 5 B b bs w) (hlen : bs.length + s.size ≤ 140737488355328) (hBw : B ≤ w.heap.size) :
    Calls Tryd.prog 43 #[.pointer (some ⟨b, 0, none⟩), .string s] w fun e w' => e = .returned (.tuple #[.int .i64 s.size, .nilIface]) ∧ (Lib.BuilderAtF 71 5 B b (.pointer (some ⟨b, 0, none⟩)) (bs ++ Lib.strCells s) w' ∧ Below B w w' ∧ Lib.OthersKept 5 (some b) w w') ∧ ∀ v0, w.cell? ⟨b, 1, none⟩ = some v0 → ∃ v1, w'.cell? ⟨b, 1, none⟩ = some v1 ∧ v0.capOf ≤ v1.capOf :=
  Any.Builder_WriteString_kc { Tryd.lays230 with } Tryd.Builder_Extra_230 B b bs s w h hlen hBw
theorem b_writeByte (B b : Nat) (bs : List Value) (c : Int) (w : World) (h : Lib.IsBuilderF 71 5 B b bs w) (hlen : bs.length + 1 ≤ 140737488355328) (hBw : B ≤ w.heap.size) :
    Calls Tryd.prog 46 #[.pointer (some ⟨b, 0, none⟩), .int .u8 c] w fun e w' => e = .returned .nilIface ∧ (Lib.BuilderAtF 71 5 B b (.pointer (some ⟨b, 0, none⟩)) (bs ++ [.int .u8 c]) w' ∧ Below B w w' ∧ Lib.OthersKept 5 (some b) w w') :=
  Any.Builder_WriteByte_k { Tryd.lays230 with } Tryd.Builder_Extra_230 B b bs c w h hlen hBw

theorem runeLen_ascii (n : Nat) (h : n < 128) : Lib.runeLen (n : Int) = 1 := by
  unfold Lib.runeLen
  rw [if_neg (by omega), if_pos (by omega)]
theorem drop_at (s : ByteArray) (pos : Nat) (h : pos < s.size) : s.data.toList.drop pos = s[pos] :: s.data.toList.drop (pos + 1) := by
  rw [List.drop_eq_getElem_cons (by simpa using h)]
  rfl
theorem take_at (s : ByteArray) (pos : Nat) (h : pos < s.size) : s.data.toList.take (pos + 1) = s.data.toList.take pos ++ [s[pos]] := by
  rw [List.take_succ_eq_append_getElem (by simpa using h)]
  rfl
theorem mem_at (s : ByteArray) (pos : Nat) (h : pos < s.size) : s[pos] ∈ s.data.toList := by
  have : s[pos] = s.data.toList[pos]'(by simpa using h) := rfl
  rw [this]
  exact List.getElem_mem _

set_option maxHeartbeats 4000000 in
set_option maxRecDepth 1000000 in
theorem map_keep (lb : Array Value) (keep : UInt8 → Bool) (s : ByteArray) (hs : s.size ≤ 1000) (hasc : ∀ c ∈ s.data.toList, c.toNat < 128) (w : World)
    (hf : ∀ (W : World) (c : UInt8), c ∈ s.data.toList → Below w.heap.size w W → Calls Tryd.prog 18 (#[.int .i32 (c.toNat : Int)] ++ lb) W fun e w' => e = .returned (.int .i32 (if keep c then (c.toNat : Int) else -1)) ∧ Below W.heap.size W w') :
    Calls Tryd.prog 17 #[.func (.func 18) #[] lb, .string s] w fun e w' => e = .returned (.string ⟨(s.data.toList.filter keep).toArray⟩) ∧ Below w.heap.size w w' := by
  obtain ⟨ANS, hANS⟩ : ∃ ANS, s.data.toList.filter keep = ANS := ⟨_, rfl⟩
  rw [hANS]
  have hlen : s.data.toList.length = s.size := (Lib.size_eq s).symm
  have HF := Lib.hid hf
  have HL := Lib.hid hlen
  have HA := Lib.hid hasc
  have HANS := Lib.hid hANS
  clear hf hlen hasc hANS
  go_enter Tryd.func17, Tryd.ntmps17
  go_wp2
  go_loopg [1] s.size (fun gk s1 wx => s1 = .string s ∧ ∃ pos : Nat, wx.heap[w.heap.size]? = some (.cells #[.pointer none, .slice none 0 0] 71 (0, 0)) ∧ wx.heap[w.heap.size + 1]? = some (.stringIter s pos) ∧ Below w.heap.size w wx ∧
    Hid (s.data.toList.take pos ++ (s.data.toList.drop pos).filter keep = ANS) ∧ s.size ≤ pos + gk ∧ pos ≤ s.size)
  case atStart =>
    refine ⟨rfl, 0, ?_, ?_, ((Below.refl _ w).alloc (Nat.le_refl _) _).alloc (by simp) _, (show _ = _ by simpa using HANS.out), by omega, by omega⟩
    · have h1 := heap_alloc_new w (.cells #[.pointer none, .slice none 0 0] 71)
      exact (Below.heap_alloc _ _ _ (by simp)).trans h1
    · have := World.iter_heap (w.alloc (.cells #[.pointer none, .slice none 0 0] 71)) s 0
      simpa using this
  case round =>
    obtain ⟨rfl, pos, hfr, hit, hbw, hsp, hfu, hps⟩ := hrel
    by_cases hlt : pos < s.size
    · obtain ⟨g', rfl⟩ : ∃ g', gk = g' + 1 := ⟨gk - 1, by omega⟩
      have hm := mem_at s pos hlt
      have ha := HA.out _ hm
      have hnx : ∀ ty, (Instr.next (.pointer (some ⟨w.heap.size + 1, 0, none⟩)) true ty).run Tryd.prog wr = _ := fun ty => Lib.run_next_ascii_at wr (w.heap.size + 1) s pos ty hit hlt ha
      have HD := Lib.hid (drop_at s pos hlt)
      have HT := Lib.hid (take_at s pos hlt)
      obtain ⟨c, hc⟩ : ∃ c, s[pos] = c := ⟨_, rfl⟩
      rw [hc] at hnx HD HT hm ha
      clear hc
      have hit2 := Lib.iterAt_heap wr (w.heap.size + 1) s pos (pos + 1) hit
      have hbw2 := Lib.below_iterAt hbw (k := w.heap.size + 1) (by omega) s (pos + 1)
      have hfr2 : (wr.iterAt (w.heap.size + 1) s (pos + 1)).heap[w.heap.size]? = _ := (Lib.iterAt_other wr (w.heap.size + 1) w.heap.size s (pos + 1) (by omega)).trans hfr
      obtain ⟨W, hWd⟩ : ∃ W, wr.iterAt (w.heap.size + 1) s (pos + 1) = W := ⟨_, rfl⟩
      rw [hWd] at hnx hit2 hbw2 hfr2
      have cS := HF.out W c hm hbw2
      have hszW : w.heap.size + 1 < W.heap.size := (Array.getElem?_eq_some_iff.1 hit2).1
      clear hit hbw hfr hWd
      by_cases hk : keep c = true
      · rw [if_pos hk] at cS
        have h1 : ((c.toNat : Int) != 65533) = true := by simp; omega
        have HS : Hid (s.data.toList.take (pos + 1) ++ (s.data.toList.drop (pos + 1)).filter keep = ANS) := by
          show _ = _
          rw [HT.out, ← hsp.out, HD.out, List.filter_cons_of_pos hk, List.append_assoc]; rfl
        clear hsp hk
        go_wp2_with (go_at_call 18; go_must (refine cS.mono ?_; rintro e W' ⟨rfl, hbc⟩))
        go_roundg g'
        case measure => omega
        case rel => exact ⟨rfl, pos + 1, (hbc.block _ (by omega)).trans hfr2, (hbc.block _ (by omega)).trans hit2, hbw2.trans (hbc.mono hbw2.size), HS, by omega, hlt⟩
      · rw [if_neg hk] at cS
        have h1 : ((-1 : Int) == (c.toNat : Int)) = false := by simp
        have h2 : ((c.toNat : Int) == 65533) = false := by simp; omega
        have HS : Hid (s.data.toList.take pos ++ (s.data.toList.drop (pos + 1)).filter keep = ANS) := by
          show _ = _
          rw [← hsp.out, HD.out, List.filter_cons_of_neg hk]
        have cR := Tryd.utf8_RuneLen (c.toNat : Int)
        rw [runeLen_ascii _ ha] at cR
        clear hsp hk
        go_wp2_with (first | (go_at_call 18; go_must (refine cS.mono ?_; rintro e W' ⟨rfl, hbc⟩)) | (go_at_call 41; refine (cR _).mono ?_; rintro e W3 ⟨rfl, rfl⟩))
        have hbC : Below w.heap.size w W3 := hbw2.trans (hbc.mono hbw2.size)
        have hfrC := (hbc.block _ (by omega)).trans hfr2
        have hxs : (s.extract 0 pos).size = pos := by rw [Lib.size_eq, Lib.extract_data, List.length_take, List.length_drop, HL.out]; omega
        have hxd : (s.extract 0 pos).data.toList = s.data.toList.take pos := by rw [Lib.extract_data]; simp
        have HXD := Lib.hid hxd
        clear hxd cR hnx hit2 hfr2 hbw2 hszW
        refine (Tryd.Builder_Grow_fresh_cap w.heap.size w.heap.size (s.size + 4) W3 (Nat.le_refl _) hfrC hbC.size (by omega)).mono ?_
        rintro e W4 ⟨rfl, ⟨h4, b4⟩, p4, cap4, hc4, hcap4⟩
        clear hfrC
        have HXS := Lib.hid hxs
        go_wp2_with fail
        refine (b_writeString w.heap.size w.heap.size [] (s.extract 0 pos) W4 (Lib.IsBuilderF.of (Or.inr h4)) (by rw [HXS.out]; simp; omega) (Nat.le_trans hbC.size b4.size)).mono ?_
        rintro e W5 ⟨rfl, ⟨h5w, b5, -⟩, hk5⟩
        obtain ⟨v5, hv5, hcap5⟩ := hk5 _ hc4
        have hcap5' : 4 ≤ v5.capOf := by
          have : cap4 ≤ v5.capOf := hcap5
          omega
        have HV5 : Hid (W5.cell? ⟨w.heap.size, 1, none⟩ = some v5) := hv5
        clear hc4 hk5 hv5 hcap5
        have hb6 : Below w.heap.size w W5 := (hbC.trans b4).trans b5
        have hcells : [] ++ Lib.strCells (s.extract 0 pos) = Lib.byteCells (s.data.toList.take pos) := by
          rw [List.nil_append, Lib.strCells_eq, HXD.out]
        have h6w := h5w
        rw [hcells] at h6w
        obtain ⟨g6, cap6, hc6, hcap6⟩ : ∃ g6 cap6, W5.cell? ⟨w.heap.size, 1, none⟩ = some (.slice (some ⟨g6, 0, none⟩) (Lib.byteCells (s.data.toList.take pos)).length cap6) ∧ 1 ≤ cap6 := by
          obtain ⟨_, v6, hv6, hown6, _⟩ := h6w
          have e6 : v6 = v5 := by
            have h1 : W5.cell? ⟨w.heap.size, 1, none⟩ = some v6 := by rw [Lib.cell_of_heap hv6]; rfl
            exact Option.some.inj (h1.symm.trans HV5.out)
          rcases hown6.2 with ⟨h0, _⟩ | ⟨g6, cap6, _, _, rfl, _, _, _, hnc, _⟩
          · rw [← e6, h0] at hcap5'
            simp [Value.capOf] at hcap5'
          · refine ⟨g6, cap6, by rw [Lib.cell_of_heap hv6]; rfl, ?_⟩
            rw [← e6] at hcap5'
            have : 4 ≤ cap6 := hcap5'
            omega
        clear HV5 hcap5' h5w hcells
        have hcapz : ¬ ((cap6 : Int) = 0) := by omega
        have hcapb : ((cap6 : Int) == 0) = false := by simp; omega
        go_wp2_with fail
        refine (Tryd.Builder_Cap_cell w.heap.size _ _ cap6 W5 hc6).mono ?_
        rintro e W6' ⟨rfl, rfl⟩
        obtain ⟨s2, hs2⟩ : ∃ s2, s.extract (pos + 1) s.size = s2 := ⟨_, rfl⟩
        have hl2 : s2.data.toList = s.data.toList.drop (pos + 1) := by
          rw [← hs2, Lib.extract_data, List.take_of_length_le (by rw [List.length_drop, HL.out]; omega)]
        have HL2 := Lib.hid hl2
        have hz2 : s2.size = s.size - (pos + 1) := by rw [Lib.size_eq, hl2, List.length_drop, HL.out]
        have hz3 : s2.size ≤ 1000 := by omega
        have HZ2 := Lib.hid hz2
        have hpk : ((pos : Int) + 1).toNat = pos + 1 := by omega
        clear hl2 hz2
        go_wp2
        go_loopg [] s2.size (fun gk wx => ∃ (p2 : Nat) (acc : List UInt8), Lib.IsBuilderF 71 5 w.heap.size w.heap.size (Lib.byteCells acc) wx ∧ wx.heap[W6'.heap.size]? = some (.stringIter s2 p2) ∧ Below w.heap.size w wx ∧
          Hid (acc ++ (s2.data.toList.drop p2).filter keep = ANS) ∧ s2.size ≤ p2 + gk ∧ p2 ≤ s2.size ∧ acc.length ≤ pos + p2)
        case atStart =>
          refine ⟨0, s.data.toList.take pos, Lib.IsBuilderF.alloc (Or.inr h6w) _, World.iter_heap W6' s2 0, hb6.alloc hb6.size _, ?_, by omega, by omega, ?_⟩
          · show _ = _
            rw [List.drop_zero, HL2.out]; exact HS.out
          · rw [List.length_take, HL.out]; omega
        case round =>
          obtain ⟨p2, acc, hI, hit, hbw, hacc, hfu2, hp2, hal⟩ := hrel
          have hszI : W6'.heap.size < wr.heap.size := (Array.getElem?_eq_some_iff.1 hit).1
          have hBI : w.heap.size ≤ W6'.heap.size := hb6.size
          have hBlt : w.heap.size < W6'.heap.size := h6w.lt
          by_cases hlt2 : p2 < s2.size
          · obtain ⟨g2, rfl⟩ : ∃ g2, gk = g2 + 1 := ⟨gk - 1, by omega⟩
            have hm2 : s2[p2] ∈ s.data.toList := by
              have := mem_at s2 p2 hlt2
              rw [HL2.out] at this
              exact List.mem_of_mem_drop this
            have ha2 := HA.out _ hm2
            have hnx : ∀ ty, (Instr.next (.pointer (some ⟨W6'.heap.size, 0, none⟩)) true ty).run Tryd.prog wr = _ := fun ty => Lib.run_next_ascii_at wr W6'.heap.size s2 p2 ty hit hlt2 ha2
            have HD2 := Lib.hid (drop_at s2 p2 hlt2)
            obtain ⟨d, hd⟩ : ∃ d, s2[p2] = d := ⟨_, rfl⟩
            rw [hd] at hnx HD2 hm2 ha2
            clear hd
            have hI2 := hI.iterAt hit (p2 + 1)
            have hit2 := Lib.iterAt_heap wr W6'.heap.size s2 p2 (p2 + 1) hit
            have hbw2 := Lib.below_iterAt hbw (k := W6'.heap.size) hBI s2 (p2 + 1)
            have hsz2 : w.heap.size ≤ (wr.iterAt W6'.heap.size s2 (p2 + 1)).heap.size := by rw [Lib.iterAt_size]; omega
            obtain ⟨Wa, hWa⟩ : ∃ Wa, wr.iterAt W6'.heap.size s2 (p2 + 1) = Wa := ⟨_, rfl⟩
            rw [hWa] at hnx hI2 hit2 hbw2 hsz2
            have cS2 := HF.out Wa d hm2 hbw2
            have hszA : W6'.heap.size < Wa.heap.size := (Array.getElem?_eq_some_iff.1 hit2).1
            clear hit hbw hI hWa
            by_cases hk2 : keep d = true
            · rw [if_pos hk2] at cS2
              have HS2 : Hid ((acc ++ [d]) ++ (s2.data.toList.drop (p2 + 1)).filter keep = ANS) := by
                show _ = _
                rw [← hacc.out, HD2.out, List.filter_cons_of_pos hk2, List.append_assoc]; rfl
              clear hk2 hacc
              go_wp2_with (go_at_call 18; go_must (refine cS2.mono ?_; rintro e W' ⟨rfl, hbc2⟩))
              refine (b_writeByte w.heap.size w.heap.size _ (d.toNat : Int) W' (hI2.below hbc2) (by rw [Lib.byteCells_length]; omega) (Nat.le_trans hsz2 hbc2.size)).mono ?_
              rintro e W7 ⟨rfl, h7, b7, k7⟩
              go_wp2
              go_roundg g2
              case measure => omega
              case rel =>
                refine ⟨p2 + 1, acc ++ [d], Or.inr ?_, k7.iter ((hbc2.block _ hszA).trans hit2) (by omega), (hbw2.trans (hbc2.mono hbw2.size)).trans b7, HS2, by omega, hlt2, by rw [List.length_append]; simp; omega⟩
                rw [Lib.byteCells_append]
                exact h7
            · rw [if_neg hk2] at cS2
              have HS2 : Hid (acc ++ (s2.data.toList.drop (p2 + 1)).filter keep = ANS) := by
                show _ = _
                rw [← hacc.out, HD2.out, List.filter_cons_of_neg hk2]
              clear hk2 hacc
              go_wp2_with (go_at_call 18; go_must (refine cS2.mono ?_; rintro e W' ⟨rfl, hbc2⟩))
              go_roundg g2
              case measure => omega
              case rel => exact ⟨p2 + 1, acc, hI2.below hbc2, (hbc2.block _ hszA).trans hit2, hbw2.trans (hbc2.mono hbw2.size), HS2, by omega, hlt2, by omega⟩
          · obtain rfl : p2 = s2.size := by omega
            have hnx : ∀ ty, (Instr.next (.pointer (some ⟨W6'.heap.size, 0, none⟩)) true ty).run Tryd.prog wr = _ := fun ty => Lib.run_next_end_at wr W6'.heap.size s2 s2.size ty hit hlt2
            go_wp2_with fail
            refine (Tryd.Builder_String_any_f w.heap.size w.heap.size acc wr hI (by omega)).mono ?_
            rintro e W8 ⟨rfl, _, b8⟩
            go_wp2
            go_ret
            refine ⟨?_, hbw.trans b8⟩
            have h := hacc.out
            rw [Lib.size_eq, List.drop_length, List.filter_nil, List.append_nil] at h
            subst h
            rfl
    · obtain rfl : pos = s.size := by omega
      have hnx : ∀ ty, (Instr.next (.pointer (some ⟨w.heap.size + 1, 0, none⟩)) true ty).run Tryd.prog wr = _ := fun ty => Lib.run_next_end_at wr (w.heap.size + 1) s s.size ty hit hlt
      have hc1 : wr.cell? ⟨w.heap.size, 1, none⟩ = some (.slice none 0 0) := by rw [Lib.cell_of_heap hfr]; rfl
      have HE := hsp
      clear hsp
      go_wp2_with (go_at_call 45; refine (Tryd.Builder_Cap_cell w.heap.size none 0 0 wr hc1).mono ?_; rintro e W6' ⟨rfl, rfl⟩)
      go_ret
      refine ⟨?_, hbw⟩
      have h := HE.out
      rw [Lib.size_eq, List.drop_length, List.take_length, List.filter_nil, List.append_nil] at h
      rw [← h]
      rfl
end Go.Proofs.YtljjdkjmciheeaaDoor.P
