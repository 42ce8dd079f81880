/- A world for the witnesses: the settled one, the library's tables as their texts lay them. -/
import Derived.Test.YtljjdkjmciheeaaDoorRows
import Derived.Lib.Space
import Derived.Lib.ItoaNum
import Derived.LaidMore
import Derived.LaidLaws
import Derived.KernelRfl
namespace Go.Proofs.YtljjdkjmciheeaaDoor.Wl
/-- Rows of cells in blocks of their own. -/
def flat : List (Nat × Nat) → List MemPlace
  | [] => []
  | (b, n) :: r => MemPlace.row ⟨b, 0, none⟩ n ++ flat r
theorem mem_flat : ∀ {l : List (Nat × Nat)} {p : MemPlace}, p ∈ flat l → ∃ b n i, (b, n) ∈ l ∧ i < n ∧ p = .cell b i
  | (b, n) :: r, p, h => by
    rcases List.mem_append.1 h with h | h
    · obtain ⟨i, hi, rfl⟩ := List.mem_map.1 h
      exact ⟨b, n, i, by simp, by simpa using hi, by simp⟩
    · obtain ⟨b', n', i, hm, hi, rfl⟩ := mem_flat h
      exact ⟨b', n', i, by simp [hm], hi, rfl⟩
theorem nodup_row (b n : Nat) : (MemPlace.row ⟨b, 0, none⟩ n).Nodup := by
  unfold MemPlace.row
  rw [List.Nodup, List.pairwise_map]
  refine List.Pairwise.imp ?_ List.nodup_range
  intro i j hij e
  apply hij
  simpa using e
theorem nodup_flat : ∀ {l : List (Nat × Nat)}, (l.map (·.1)).Nodup → (flat l).Nodup
  | [], _ => List.nodup_nil
  | (b, n) :: r, h => by
    simp only [List.map_cons, List.nodup_cons] at h
    refine List.nodup_append.2 ⟨nodup_row b n, nodup_flat h.2, ?_⟩
    intro x hx y hy e
    subst e
    obtain ⟨i, _, rfl⟩ := List.mem_map.1 hx
    obtain ⟨b', n', j, hm, _, e⟩ := mem_flat hy
    simp only [MemPlace.cell.injEq] at e
    apply h.1
    rw [e.1]
    exact List.mem_map.2 ⟨_, hm, rfl⟩
def rowOk (P : Program) (w : World) (b : Nat) : Bool :=
  match w.heap[b]? with
  | some (.cells c _ (0, 0)) => c.toList.all fun | .iface u v => Value.okWideB P w u v | _ => true
  | _ => false
theorem laidMet_of_rows {P : Program} {w : World} {l : List (String × DataW Unit)} (rows : List (Nat × Nat)) (fuel : Nat) (h : DataW.laidRun P w fuel (l.map (·.1)) = some (l, flat rows)) (hn : (rows.map (·.1)).Nodup) (hr : (rows.all fun x => rowOk P w x.1) = true) : laidMet P l w := by
  refine ⟨flat rows, DataW.LaidVars_of_laidRun h, nodup_flat hn, fun b off hp => ?_⟩
  obtain ⟨b', n, i, hm, _, e⟩ := mem_flat hp
  simp only [MemPlace.cell.injEq] at e
  obtain ⟨rfl, rfl⟩ := e
  have hk := List.all_eq_true.1 hr _ hm
  simp only [rowOk] at hk
  split at hk
  · rename_i c t hh
    refine ⟨⟨c, t, hh⟩, fun u v hc => ?_⟩
    have hcc : c[off]? = some (.iface u v) := by
      unfold World.cell? at hc
      rw [hh] at hc
      simpa using hc
    have := List.all_eq_true.1 hk _ (List.mem_of_getElem? (by rw [Array.getElem?_toList]; exact hcc))
    exact Value.okWide_of_okWideB this
  · cases hk
def rows7 : List (Nat × Nat) := [(8, 32), (9, 64), (7, 20), (3, 32), (4, 1), (16, 3), (17, 21), (1, 256), (2, 256)]
def u8s (l : List Int) : Array Value := (l.map (Value.int .u8)).toArray
def db32 : List Int := [0, 1, 28, 2, 29, 14, 24, 3, 30, 22, 20, 15, 25, 17, 4, 8, 31, 27, 13, 23, 21, 19, 16, 7, 26, 12, 18, 6, 11, 5, 10, 9]
def db64 : List Int := [0, 1, 56, 2, 57, 49, 28, 3, 61, 58, 42, 50, 38, 29, 17, 4, 62, 47, 59, 36, 45, 43, 51, 22, 53, 39, 33, 30, 24, 18, 12, 5, 63, 55, 48, 27, 60, 41, 37, 16, 46, 35, 44, 21, 52, 32, 23, 11, 54, 26, 40, 15, 34, 20, 31, 10, 25, 14, 19, 9, 13, 8, 7, 6]
def accR : List Int := [128, 191, 160, 191, 128, 159, 144, 191, 128, 143, 0, 0, 0, 0, 0, 0, 0, 0, 0, 0, 0, 0, 0, 0, 0, 0, 0, 0, 0, 0, 0, 0]
def whiteR : List Int := [9, 13, 1, 32, 133, 101, 160, 5760, 5600, 8192, 8202, 1, 8232, 8233, 1, 8239, 8287, 48, 12288, 12288, 1]
/-- What each of the library's variables holds. -/
def tabs : List (Nat × Array Value) := [(1, u8s Lib.asciiSpaceTab), (2, u8s (Go.Pinned.utf8FirstZ.map fun (n : Nat) => (n : Int))), (3, u8s accR), (4, #[.pointer (some ⟨16, 0, none⟩)]), (7, (Lib.pow10Tab.map (Value.int .u64)).toArray), (8, u8s db32), (9, u8s db64)]
def blocks : Array Obj := #[.cells #[.slice (some ⟨17, 0, none⟩) 7 7, .slice none 0 0, .int .i64 2] 133, .cells (whiteR.map (Value.int .u16)).toArray 136]
def lay (h : List Obj) : List (Nat × Array Value) → List Obj
  | [] => h
  | (i, c) :: r => lay (h.modify i fun | .cells _ t frozen => .cells c t frozen | o => o) r
noncomputable def laidWorld (os : Os) : World :=
  { World.holding Tryd.prog os ⟨blocks, #[], []⟩ with heap := (lay (World.holding Tryd.prog os ⟨blocks, #[], []⟩).heap.toList tabs).toArray }
end Go.Proofs.YtljjdkjmciheeaaDoor.Wl
