/- The reference's FileRead: plain functions of its loops. -/
import Derived.Test.YtljjdkjmciheeaaKa
namespace Go.Proofs.Ytljjdkjmciheeaa.P
open Go.RowKit Go.Proofs.YtljjdkjmciheeaaW.PrintWords Go.Proofs.YtljjdkjmciheeaaW.PrintLast Go.Proofs.YtljjdkjmciheeaaW.PrintMore
set_option linter.unusedVariables false

/-- A text's bytes as one number. -/
def deepL (l : List Int) : Int := l.foldl (fun n b => 256 * n + b) 0
def deepB (s : ByteArray) : Int := deepL (bytesOf s)
theorem deepL_snoc (l : List Int) (x : Int) : deepL (l ++ [x]) = 256 * deepL l + x := by simp [deepL]
theorem deep_bound (s : ByteArray) (hs : s.size ≤ 4) : ∀ i, i ≤ s.size → 0 ≤ deepL ((bytesOf s).take i) ∧ deepL ((bytesOf s).take i) < 256 ^ i
  | 0, _ => by simp [deepL]
  | i + 1, h => by
    have ih := deep_bound s hs i (by omega)
    have hb := bt_range s (i : Int)
    rw [List.take_succ_eq_append_getElem (by rw [bytesOf_length]; omega), deepL_snoc, bt_bytes s i (by omega)]
    have : (256 : Int) ^ (i + 1) = 256 * 256 ^ i := by rw [Int.pow_succ]; omega
    omega
theorem deep_go (s : ByteArray) (hs : s.size ≤ 4) : ∀ (d i : Nat), i + d = s.size → Ev (fun k => custodianref_deep.l0 k s (deepL ((bytesOf s).take i)) (s.size : Int) (i : Int)) (deepB s)
  | 0, i, hi => by
    have : ((bytesOf s).take i) = bytesOf s := List.take_of_length_le (by rw [bytesOf_length]; omega)
    refine Ev.step (fun k => by simp only [custodianref_deep.l0]; rw [if_neg (by omega), this]) ?_
    exact Ev.now _
  | d + 1, i, hi => by
    have ih := deep_go s hs d (i + 1) (by omega)
    have hb := bt_range s (i : Int)
    have hn := deep_bound s hs i (by omega)
    have hp : (256 : Int) ^ i ≤ 16777216 := by
      have : i ≤ 3 := by omega
      match i, this with
      | 0, _ => decide
      | 1, _ => decide
      | 2, _ => decide
      | 3, _ => decide
    have e1 : wrap64 (wrap64 (256 * deepL ((bytesOf s).take i)) + wrap64 (bt s (i : Int))) = deepL ((bytesOf s).take (i + 1)) := by
      rw [List.take_succ_eq_append_getElem (by rw [bytesOf_length]; omega), deepL_snoc, bt_bytes s i (by omega)]
      unfold wrap64
      omega
    have e2 : wrap64 ((i : Int) + 1) = ((i + 1 : Nat) : Int) := by unfold wrap64; omega
    refine Ev.step (fun k => by simp only [custodianref_deep.l0]; rw [if_pos (by omega), if_pos (by omega), if_pos (by omega), e1, e2]) ?_
    exact ih
theorem deep_is (s : ByteArray) (hs : s.size ≤ 4) : ∃ k, custodianref_deep.f k s = some (deepB s) := by
  have := deep_go s hs s.size 0 (by omega)
  exact Ev.rounds (by simpa [custodianref_deep.f, deepL] using this)
theorem deepB_range (s : ByteArray) (hs : s.size ≤ 4) : 0 ≤ deepB s ∧ deepB s < 4294967296 := by
  have := deep_bound s hs s.size (Nat.le_refl _)
  rw [List.take_of_length_le (by rw [bytesOf_length]; exact Nat.le_refl _)] at this
  have hp : (256 : Int) ^ s.size ≤ 4294967296 := by
    have : s.size ≤ 4 := hs
    match h : s.size, this with
    | 0, _ => decide
    | 1, _ => decide
    | 2, _ => decide
    | 3, _ => decide
    | 4, _ => decide
  unfold deepB
  omega
theorem takeT_size (n : Nat) (s : ByteArray) : (takeT (n : Int) s).size ≤ n := by
  unfold takeT
  split
  · exact Nat.zero_le _
  · simp; omega
theorem takeL_size (n : Int) (s : ByteArray) : (takeL n s).size ≤ s.size := by
  unfold takeL
  split
  · exact Nat.zero_le _
  · simp

/-- So many numbers, and what is left. -/
def numsR : Nat → ByteArray → List Int × ByteArray
  | 0, s => ([], s)
  | n + 1, s => ((numsR n s).1 ++ [deepB (takeT 4 (numsR n s).2) - 2147483648], takeL 4 (numsR n s).2)
/-- One name with its number, and what is left. -/
def nameR (s : ByteArray) : ByteArray × Int × ByteArray :=
  let n := deepB (takeT 1 s)
  let r := takeL 1 s
  (takeT n r, deepB (takeT 1 (takeL n r)), takeL 1 (takeL n r))
def labsR : Nat → ByteArray → List S57 × ByteArray
  | 0, s => ([], s)
  | n + 1, s => ((labsR n s).1 ++ [⟨(nameR (labsR n s).2).1, (nameR (labsR n s).2).2.1⟩], (nameR (labsR n s).2).2.2)
def impsR : Nat → ByteArray → List S59 × ByteArray
  | 0, s => ([], s)
  | n + 1, s => ((impsR n s).1 ++ [⟨(nameR (impsR n s).2).1, (nameR (impsR n s).2).2.1⟩], (nameR (impsR n s).2).2.2)
theorem numsR_len (n : Nat) (s : ByteArray) : (numsR n s).1.length = n := by induction n with | zero => rfl | succ n ih => simp [numsR, ih]
theorem labsR_len (n : Nat) (s : ByteArray) : (labsR n s).1.length = n := by induction n with | zero => rfl | succ n ih => simp [labsR, ih]
theorem impsR_len (n : Nat) (s : ByteArray) : (impsR n s).1.length = n := by induction n with | zero => rfl | succ n ih => simp [impsR, ih]

/-- The memory of the reference's FileRead: the result's place, what is left to read, the module, and the two places that the first loop goes over. -/
structure RSt (w : World) (g2 gr gm gt : Nat) (wr : World) (rest : ByteArray) (vc vd ve vi : Value) : Prop where
  res : wr.heap[g2]? = some (.cells #[.slice none 0 0, .slice none 0 0, .slice none 0 0, .slice none 0 0] 26 (0, 0))
  r : wr.heap[gr]? = some (.cells #[.string rest] 9 (0, 0))
  m : wr.heap[gm]? = some (.cells #[vc, vd, ve, vi] 26 (0, 0))
  t : wr.heap[gt]? = some (.cells #[.pointer (some ⟨gm, 0, none⟩), .pointer (some ⟨gm, 1, none⟩)] 72 (0, 0))
  ne : g2 ≠ gm
  low : w.heap.size ≤ g2 ∧ w.heap.size ≤ gr ∧ w.heap.size ≤ gm
  below : Below w.heap.size w wr
theorem RSt.takes {w : World} {g2 gr gm gt : Nat} {wr : World} {rest r2 : ByteArray} {vc vd ve vi : Value} (h : RSt w g2 gr gm gt wr rest vc vd ve vi) : RSt w g2 gr gm gt (wr.setCell ⟨gr, 0, none⟩ (.string r2)) r2 vc vd ve vi :=
  have h1 : g2 ≠ gr := blk_ne h.res h.r (by decide)
  have h2 : gm ≠ gr := blk_ne h.m h.r (by decide)
  have h3 : gt ≠ gr := blk_ne h.t h.r (by decide)
  ⟨blk_far h.res h1 _, by simpa using blk_set h.r 0 (.string r2), blk_far h.m h2 _, blk_far h.t h3 _, h.ne, h.low, h.below.setCell h.low.2.1 _⟩
theorem RSt.later {w : World} {g2 gr gm gt : Nat} {wr w1 : World} {rest : ByteArray} {vc vd ve vi : Value} (h : RSt w g2 gr gm gt wr rest vc vd ve vi) (hb : Below wr.heap.size wr w1) : RSt w g2 gr gm gt w1 rest vc vd ve vi :=
  ⟨blk_below h.res hb, blk_below h.r hb, blk_below h.m hb, blk_below h.t hb, h.ne, h.low, below_then h.below h.below.size hb⟩
theorem RSt.grown {w : World} {g2 gr gm gt : Nat} {wr w1 : World} {rest : ByteArray} {vc vd ve vi v : Value} (h : RSt w g2 gr gm gt wr rest vc vd ve vi) {e sz n : Nat} {xs : List Value} (ho : wr.ownsRow w.heap.size e sz v n xs) (he9 : e ≠ 9) (he26 : e ≠ 26) (he72 : e ≠ 72) (hg : wr.grownBy w1 v.ownBlock) : RSt w g2 gr gm gt w1 rest vc vd ve vi :=
  ⟨blk_grown h.res hg (own_ne ho h.res he26), blk_grown h.r hg (own_ne ho h.r he9), blk_grown h.m hg (own_ne ho h.m he26), blk_grown h.t hg (own_ne ho h.t he72), h.ne, h.low, pw_below_grown h.below _ h.below.size hg (own_base ho)⟩

/-- A block that is new is no row's. -/
theorem fresh_of {α : Type} {d : Kd α} {e base : Nat} {ok : Nat → Prop} {W : World} {v : Value} {xs : List α} (h : d.R e W base ok v xs) : ∀ k, W.heap.size ≤ k → some k ≠ v.ownBlock := fun k hk he => by
  obtain ⟨inner, ho⟩ := Kd.R_own h
  have := own_lt ho k he.symm
  omega
/-- The whole state: with the four rows. -/
structure RAll (w : World) (g2 gr gm gt : Nat) (wr : World) (rest : ByteArray) (vc vd ve vi : Value) (c d : List Int) (e : List S57) (i : List S59) : Prop where
  m : RSt w g2 gr gm gt wr rest vc vd ve vi
  oc : Kd.R (Kd.int .i64) 3 wr w.heap.size (fun k => some k ≠ vd.ownBlock) vc c
  od : Kd.R (Kd.int .i64) 3 wr w.heap.size (fun k => some k ≠ vc.ownBlock) vd d
  oe : Kd.R k57 57 wr w.heap.size (fun _ => True) ve e
  oi : Kd.R k59 59 wr w.heap.size (fun _ => True) vi i
section
variable {w : World} {g2 gr gm gt : Nat} {wr w1 : World} {rest r2 : ByteArray} {vc vd ve vi v1 : Value} {c d : List Int} {e : List S57} {i : List S59}
theorem RAll.later (h : RAll w g2 gr gm gt wr rest vc vd ve vi c d e i) (hb : Below wr.heap.size wr w1) : RAll w g2 gr gm gt w1 rest vc vd ve vi c d e i :=
  ⟨h.m.later hb, Kd.R_below h.oc hb, Kd.R_below h.od hb, Kd.R_below h.oe hb, Kd.R_below h.oi hb⟩
theorem RAll.takes (h : RAll w g2 gr gm gt wr rest vc vd ve vi c d e i) : RAll w g2 gr gm gt (wr.setCell ⟨gr, 0, none⟩ (.string r2)) r2 vc vd ve vi c d e i :=
  ⟨h.m.takes, Kd.R_set h.oc h.m.r (by decide) _ _, Kd.R_set h.od h.m.r (by decide) _ _, Kd.R_set h.oe h.m.r (by decide) _ _, Kd.R_set h.oi h.m.r (by decide) _ _⟩
theorem RAll.alloc (h : RAll w g2 gr gm gt wr rest vc vd ve vi c d e i) (o : Obj) : RAll w g2 gr gm gt (wr.alloc o) rest vc vd ve vi c d e i := h.later (below_alloc (Below.refl _ _) o)
theorem RAll.drew (h : RAll w g2 gr gm gt wr rest vc vd ve vi c d e i) : RAll w g2 gr gm gt wr.drew rest vc vd ve vi c d e i := h.later (Below.refl _ _).drew
theorem RAll.drewN (h : RAll w g2 gr gm gt wr rest vc vd ve vi c d e i) (n : Nat) : RAll w g2 gr gm gt (wr.drewN n) rest vc vd ve vi c d e i := h.later (pw_below_drewN (Below.refl _ _) n)
/-- The module's cell j is written. -/
theorem RSt.put (h : RSt w g2 gr gm gt wr rest vc vd ve vi) (j : Nat) (u : Value) {vc' vd' ve' vi' : Value} (e : (#[vc, vd, ve, vi] : Array Value).setIfInBounds j u = #[vc', vd', ve', vi']) : RSt w g2 gr gm gt (wr.setCell ⟨gm, j, none⟩ u) rest vc' vd' ve' vi' :=
  have h2 : gr ≠ gm := blk_ne h.r h.m (by decide)
  have h3 : gt ≠ gm := blk_ne h.t h.m (by decide)
  ⟨blk_far h.res h.ne _, blk_far h.r h2 _, blk_put h.m j u e, blk_far h.t h3 _, h.ne, h.low, h.below.setCell h.low.2.2 _⟩
/-- Rows of another type than the one that was written. -/
theorem row_apart {α : Type} {k : Kd α} {q e0 sz n : Nat} {ok : Nat → Prop} {v u : Value} {xs : List α} {ys : List Value} (h : k.R q wr w.heap.size ok u xs) (hE : k.E = []) (ho : wr.ownsRow w.heap.size e0 sz v n ys) (hne : e0 ≠ q) (hg : wr.grownBy w1 v.ownBlock) : k.R q w1 w.heap.size ok u xs :=
  Kd.R_mono (Kd.R_grown (ok := fun k => ok k ∧ some k ≠ v.ownBlock) (Kd.R_mono (Kd.R_bound h) (fun j hk => ⟨hk.1, fun he => by
    obtain ⟨_, _, _, r, hq, cells, hc⟩ := hk
    rw [hE] at hq
    have hq := List.mem_singleton.1 hq
    subst hq
    exact own_ne ho hc hne he⟩)) hg (fun _ hk => hk.2)) (fun _ hk => hk.1)
theorem RAll.addC (h : RAll w g2 gr gm gt wr rest vc vd ve vi c d e i) {x : Int} (hr : Kd.R (Kd.int .i64) 3 w1 w.heap.size (fun k => some k ≠ vd.ownBlock) v1 (c ++ [x])) (hg : wr.grownBy w1 vc.ownBlock) (hat : v1.ownBlock = vc.ownBlock ∨ ∃ b, v1.ownBlock = some b ∧ wr.heap.size ≤ b) :
    RSt w g2 gr gm gt w1 rest vc vd ve vi ∧ RAll w g2 gr gm gt (w1.setCell ⟨gm, 0, none⟩ v1) rest v1 vd ve vi (c ++ [x]) d e i := by
  obtain ⟨ic, ho⟩ := Kd.R_own h.oc
  have hm : RSt w g2 gr gm gt w1 rest vc vd ve vi := h.m.grown ho (by decide) (by decide) (by decide) hg
  have hd : Kd.R (Kd.int .i64) 3 w1 w.heap.size (fun k => some k ≠ v1.ownBlock) vd d := Kd.R_mono (Kd.R_after (v := vc) (Kd.R_mono h.od (fun k hk => (⟨trivial, hk⟩ : True ∧ _))) hg hat) (fun _ hk => hk.2)
  have he : Kd.R k57 57 w1 w.heap.size (fun _ => True) ve e := row_apart h.oe rfl ho (by decide) hg
  have hi : Kd.R k59 59 w1 w.heap.size (fun _ => True) vi i := row_apart h.oi rfl ho (by decide) hg
  exact ⟨hm, hm.put 0 v1 rfl, Kd.R_set hr hm.m (by decide) _ _, Kd.R_set hd hm.m (by decide) _ _, Kd.R_set he hm.m (by decide) _ _, Kd.R_set hi hm.m (by decide) _ _⟩
theorem RAll.addD (h : RAll w g2 gr gm gt wr rest vc vd ve vi c d e i) {x : Int} (hr : Kd.R (Kd.int .i64) 3 w1 w.heap.size (fun k => some k ≠ vc.ownBlock) v1 (d ++ [x])) (hg : wr.grownBy w1 vd.ownBlock) (hat : v1.ownBlock = vd.ownBlock ∨ ∃ b, v1.ownBlock = some b ∧ wr.heap.size ≤ b) :
    RSt w g2 gr gm gt w1 rest vc vd ve vi ∧ RAll w g2 gr gm gt (w1.setCell ⟨gm, 1, none⟩ v1) rest vc v1 ve vi c (d ++ [x]) e i := by
  obtain ⟨ic, ho⟩ := Kd.R_own h.od
  have hm : RSt w g2 gr gm gt w1 rest vc vd ve vi := h.m.grown ho (by decide) (by decide) (by decide) hg
  have hd : Kd.R (Kd.int .i64) 3 w1 w.heap.size (fun k => some k ≠ v1.ownBlock) vc c := Kd.R_mono (Kd.R_after (v := vd) (Kd.R_mono h.oc (fun k hk => (⟨trivial, hk⟩ : True ∧ _))) hg hat) (fun _ hk => hk.2)
  have he : Kd.R k57 57 w1 w.heap.size (fun _ => True) ve e := row_apart h.oe rfl ho (by decide) hg
  have hi : Kd.R k59 59 w1 w.heap.size (fun _ => True) vi i := row_apart h.oi rfl ho (by decide) hg
  exact ⟨hm, hm.put 1 v1 rfl, Kd.R_set hd hm.m (by decide) _ _, Kd.R_set hr hm.m (by decide) _ _, Kd.R_set he hm.m (by decide) _ _, Kd.R_set hi hm.m (by decide) _ _⟩
theorem RAll.addE (h : RAll w g2 gr gm gt wr rest vc vd ve vi c d e i) {x : S57} (hr : Kd.R k57 57 w1 w.heap.size (fun _ => True) v1 (e ++ [x])) (hg : wr.grownBy w1 ve.ownBlock) :
    RSt w g2 gr gm gt w1 rest vc vd ve vi ∧ RAll w g2 gr gm gt (w1.setCell ⟨gm, 2, none⟩ v1) rest vc vd v1 vi c d (e ++ [x]) i := by
  obtain ⟨ic, ho⟩ := Kd.R_own h.oe
  have hm : RSt w g2 gr gm gt w1 rest vc vd ve vi := h.m.grown ho (by decide) (by decide) (by decide) hg
  exact ⟨hm, hm.put 2 v1 rfl, Kd.R_set (row_apart h.oc rfl ho (by decide) hg) hm.m (by decide) _ _, Kd.R_set (row_apart h.od rfl ho (by decide) hg) hm.m (by decide) _ _, Kd.R_set hr hm.m (by decide) _ _, Kd.R_set (row_apart h.oi rfl ho (by decide) hg) hm.m (by decide) _ _⟩
theorem RAll.addI (h : RAll w g2 gr gm gt wr rest vc vd ve vi c d e i) {x : S59} (hr : Kd.R k59 59 w1 w.heap.size (fun _ => True) v1 (i ++ [x])) (hg : wr.grownBy w1 vi.ownBlock) :
    RSt w g2 gr gm gt w1 rest vc vd ve vi ∧ RAll w g2 gr gm gt (w1.setCell ⟨gm, 3, none⟩ v1) rest vc vd ve v1 c d e (i ++ [x]) := by
  obtain ⟨ic, ho⟩ := Kd.R_own h.oi
  have hm : RSt w g2 gr gm gt w1 rest vc vd ve vi := h.m.grown ho (by decide) (by decide) (by decide) hg
  exact ⟨hm, hm.put 3 v1 rfl, Kd.R_set (row_apart h.oc rfl ho (by decide) hg) hm.m (by decide) _ _, Kd.R_set (row_apart h.od rfl ho (by decide) hg) hm.m (by decide) _ _, Kd.R_set (row_apart h.oe rfl ho (by decide) hg) hm.m (by decide) _ _, Kd.R_set hr hm.m (by decide) _ _⟩
end


section
variable {P : Program} {ops : Array Oper} {o : Oper} {a : Act} {Q : Exit → Act → World → Prop} {Kc : Act → World → Prop} {α : Type}
/-- append(v, x) as one step of a region that draws: x lies in a block B of the world, wherever. -/
theorem R_append_step2 (d : Kd α) {w0 W : World} (base : Nat) (hw : Region.wanted o (yielded ops a.tmps) = true) (s x : Operand) (t e : TypeId) (z : Value) (bytes : Nat)
    (ho : o.op = .call { callee := .builtin .append, args := #[s, x], argTypes := #[t, t] })
    (ht : P.underlying t = some (.slice e)) (hinfo : (P.info? e).map (fun i => (i.zero, i.size, i.bytes)) = some (some z, d.sz, bytes)) (hz : z.cells.size = d.sz) (hs0 : 0 < d.sz) (hb0 : 0 < bytes)
    (v : Value) (xs : List α) (p : α) (cs : List Value) (ok okp : Nat → Prop) (hs : a.eval s = v) (B : Nat) (hx : a.eval x = .slice (some ⟨B, 0, none⟩) 1 1) (hbx : W.heap[B]? = some (.cells cs.toArray e (0, 0))) (hp : d.M W base okp p cs) (hokp : ∀ k, okp k → ok k ∧ some k ≠ v.ownBlock) (hfresh : ∀ k, W.heap.size ≤ k → ok k)
    (HO : d.R e W base ok v xs) (HB : Below base w0 W) (hbase : base ≤ W.heap.size) (hl : (xs.length + 1) * bytes ≤ 140737488355328)
    (h : ∀ v1 w1, d.R e w1 base ok v1 (xs ++ [p]) → Below base w0 w1 → W.grownBy w1 v.ownBlock → (v1.ownBlock = v.ownBlock ∨ ∃ b, v1.ownBlock = some b ∧ W.heap.size ≤ b) → Kc (a.put o.dst v1) w1) :
    if Region.wanted o (yielded ops a.tmps) = true then Oper.wp P o a W Kc Q else Kc (a.put o.dst undef) W := by
  obtain ⟨h0, inner, hown0, hr⟩ := HO
  obtain ⟨i0, hi, hzz⟩ := Option.map_eq_some_iff.1 hinfo
  simp only [Prod.mk.injEq] at hzz
  obtain ⟨hz0, hz1, hz2⟩ := hzz
  have hlen : xs.length + 1 ≤ 140737488355328 := Nat.le_trans (Nat.le_mul_of_pos_right _ hb0) hl
  rw [if_pos hw]
  have hcs : cs.length = d.sz := d.K_len (d.K_of_M hp)
  obtain ⟨v1, w1, hrn, hown, hg, _, hat⟩ := run_append_own_at (P := P) W base t o.type e i0 z d.sz bytes ht hi hz0 hz1 hz2 hz hs0 v xs.length inner hown0 ⟨B, 0, none⟩ 1 1 cs (by rw [hcs]; simp)
    (by simpa using World.news_of_block (cs := cs.toArray) (t := e) (fr := (0, 0)) hbx) (d.K_one (d.K_of_M hp)) (by simp only [maxLen]; omega) hl hbase
  unfold Oper.wp execOp
  simp only [ho, resolve, invoke, builtin, Sem.run_bind, Sem.run_pure, Result.andThen_ok, List.map_toArray, List.map_cons, List.map_nil, hs, hx, hrn]
  have hat2 : v1.ownBlock = v.ownBlock ∨ ∃ b, v1.ownBlock = some b ∧ W.heap.size ≤ b := by
    rcases hat with hat | hat
    · exact .inl hat
    · exact .inr ⟨_, hat, by simp⟩
  exact h v1 w1 (Kd.R_appended h0 hr hp hokp hfresh hown hg hat2) (HB.grown hg hbase (own_base hown0)) hg hat2
variable {w : World} {g2 gr gm gt : Nat} {W : World} {rest : ByteArray} {vc vd ve vi : Value} {c d : List Int} {e : List S57} {i : List S59}
theorem stepC (hw : Region.wanted o (yielded ops a.tmps) = true) (s x : Operand)
    (ho : o.op = .call { callee := .builtin .append, args := #[s, x], argTypes := #[22, 22] }) (n : Int)
    (HA : RAll w g2 gr gm gt W rest vc vd ve vi c d e i) (hs : a.eval s = vc) (B : Nat) (hx : a.eval x = .slice (some ⟨B, 0, none⟩) 1 1) (hbx : W.heap[B]? = some (.cells #[.int .i64 n] 3 (0, 0))) (hl : c.length ≤ 1000)
    (h : ∀ A8 c8 w1, RSt w g2 gr gm gt w1 rest vc vd ve vi → RAll w g2 gr gm gt (w1.setCell ⟨gm, 0, none⟩ (.slice A8 (c.length + 1) c8)) rest (.slice A8 (c.length + 1) c8) vd ve vi (c ++ [n]) d e i → Kc (a.put o.dst (.slice A8 (c.length + 1) c8)) w1) :
    if Region.wanted o (yielded ops a.tmps) = true then Oper.wp Try.prog o a W Kc Q else Kc (a.put o.dst undef) W := by
  refine R_append_step2 (Kd.int .i64) (w0 := w) w.heap.size hw s x 22 3 (.int .i64 0) 8 ho Try.underlying22 info3 rfl (by decide) (by omega) vc c n (#[.int .i64 n]).toList (fun k => some k ≠ vd.ownBlock) (fun _ => False) hs B hx hbx ?_ (fun _ hk => hk.elim) (fresh_of HA.od) HA.oc HA.m.below HA.m.below.size (by omega) ?_
  · exact rfl
  · intro v1 w1 hr hb hg hat
    obtain ⟨A8, c8, rfl⟩ := Kd.R_slice hr
    rw [List.length_append, List.length_singleton] at *
    have := RAll.addC HA hr hg hat
    exact h A8 c8 w1 this.1 this.2
theorem stepD (hw : Region.wanted o (yielded ops a.tmps) = true) (s x : Operand)
    (ho : o.op = .call { callee := .builtin .append, args := #[s, x], argTypes := #[22, 22] }) (n : Int)
    (HA : RAll w g2 gr gm gt W rest vc vd ve vi c d e i) (hs : a.eval s = vd) (B : Nat) (hx : a.eval x = .slice (some ⟨B, 0, none⟩) 1 1) (hbx : W.heap[B]? = some (.cells #[.int .i64 n] 3 (0, 0))) (hl : d.length ≤ 1000)
    (h : ∀ A8 c8 w1, RSt w g2 gr gm gt w1 rest vc vd ve vi → RAll w g2 gr gm gt (w1.setCell ⟨gm, 1, none⟩ (.slice A8 (d.length + 1) c8)) rest vc (.slice A8 (d.length + 1) c8) ve vi c (d ++ [n]) e i → Kc (a.put o.dst (.slice A8 (d.length + 1) c8)) w1) :
    if Region.wanted o (yielded ops a.tmps) = true then Oper.wp Try.prog o a W Kc Q else Kc (a.put o.dst undef) W := by
  refine R_append_step2 (Kd.int .i64) (w0 := w) w.heap.size hw s x 22 3 (.int .i64 0) 8 ho Try.underlying22 info3 rfl (by decide) (by omega) vd d n (#[.int .i64 n]).toList (fun k => some k ≠ vc.ownBlock) (fun _ => False) hs B hx hbx ?_ (fun _ hk => hk.elim) (fresh_of HA.oc) HA.od HA.m.below HA.m.below.size (by omega) ?_
  · exact rfl
  · intro v1 w1 hr hb hg hat
    obtain ⟨A8, c8, rfl⟩ := Kd.R_slice hr
    rw [List.length_append, List.length_singleton] at *
    have := RAll.addD HA hr hg hat
    exact h A8 c8 w1 this.1 this.2
theorem stepE (hw : Region.wanted o (yielded ops a.tmps) = true) (s x : Operand)
    (ho : o.op = .call { callee := .builtin .append, args := #[s, x], argTypes := #[23, 23] }) (y : S57)
    (HA : RAll w g2 gr gm gt W rest vc vd ve vi c d e i) (hs : a.eval s = ve) (B : Nat) (hx : a.eval x = .slice (some ⟨B, 0, none⟩) 1 1) (hbx : W.heap[B]? = some (.cells #[.string y.f0, .int .i64 y.f1] 57 (0, 0))) (hl : e.length ≤ 1000)
    (h : ∀ A8 c8 w1, RSt w g2 gr gm gt w1 rest vc vd ve vi → RAll w g2 gr gm gt (w1.setCell ⟨gm, 2, none⟩ (.slice A8 (e.length + 1) c8)) rest vc vd (.slice A8 (e.length + 1) c8) vi c d (e ++ [y]) i → Kc (a.put o.dst (.slice A8 (e.length + 1) c8)) w1) :
    if Region.wanted o (yielded ops a.tmps) = true then Oper.wp Try.prog o a W Kc Q else Kc (a.put o.dst undef) W := by
  refine R_append_step2 k57 (w0 := w) w.heap.size hw s x 23 57 (.agg #[(.string ⟨#[]⟩), (.int .i64 0)]) 24 ho Try.underlying23 info57 rfl (by decide) (by omega) ve e y (#[.string y.f0, .int .i64 y.f1]).toList (fun _ => True) (fun _ => False) hs B hx hbx ?_ (fun _ hk => hk.elim) (fun _ _ => trivial) HA.oe HA.m.below HA.m.below.size (by omega) ?_
  · exact k57_mkM _ _ _ y
  · intro v1 w1 hr hb hg hat
    obtain ⟨A8, c8, rfl⟩ := Kd.R_slice hr
    rw [List.length_append, List.length_singleton] at *
    have := RAll.addE HA hr hg
    exact h A8 c8 w1 this.1 this.2
theorem stepI (hw : Region.wanted o (yielded ops a.tmps) = true) (s x : Operand)
    (ho : o.op = .call { callee := .builtin .append, args := #[s, x], argTypes := #[24, 24] }) (y : S59)
    (HA : RAll w g2 gr gm gt W rest vc vd ve vi c d e i) (hs : a.eval s = vi) (B : Nat) (hx : a.eval x = .slice (some ⟨B, 0, none⟩) 1 1) (hbx : W.heap[B]? = some (.cells #[.string y.f0, .int .i64 y.f1] 59 (0, 0))) (hl : i.length ≤ 1000)
    (h : ∀ A8 c8 w1, RSt w g2 gr gm gt w1 rest vc vd ve vi → RAll w g2 gr gm gt (w1.setCell ⟨gm, 3, none⟩ (.slice A8 (i.length + 1) c8)) rest vc vd ve (.slice A8 (i.length + 1) c8) c d e (i ++ [y]) → Kc (a.put o.dst (.slice A8 (i.length + 1) c8)) w1) :
    if Region.wanted o (yielded ops a.tmps) = true then Oper.wp Try.prog o a W Kc Q else Kc (a.put o.dst undef) W := by
  refine R_append_step2 k59 (w0 := w) w.heap.size hw s x 24 59 (.agg #[(.string ⟨#[]⟩), (.int .i64 0)]) 24 ho Try.underlying24 info59 rfl (by decide) (by omega) vi i y (#[.string y.f0, .int .i64 y.f1]).toList (fun _ => True) (fun _ => False) hs B hx hbx ?_ (fun _ hk => hk.elim) (fun _ _ => trivial) HA.oi HA.m.below HA.m.below.size (by omega) ?_
  · exact k59_mkM _ _ _ y
  · intro v1 w1 hr hb hg hat
    obtain ⟨A8, c8, rfl⟩ := Kd.R_slice hr
    rw [List.length_append, List.length_singleton] at *
    have := RAll.addI HA hr hg
    exact h A8 c8 w1 this.1 this.2
end

end Go.Proofs.Ytljjdkjmciheeaa.P
