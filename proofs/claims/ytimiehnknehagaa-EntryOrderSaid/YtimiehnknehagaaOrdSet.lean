import Derived.Test.YtimiehnknehagaaOrdPlain
import Derived.Deep.MidRow
set_option linter.unusedSimpArgs false
set_option linter.unusedVariables false
namespace Go.Proofs.Ytimiehnknehagaa
open Go.RowKit
/-! Storing an entry into an own row. -/
theorem flat_set (x : Ent) : ∀ (l : List Ent) (i : Nat), i < l.length → (((l.flatMap encE).set (i * 3) (.int .i64 x.1)).set (i * 3 + 1) (.int .i64 x.2.1)).set (i * 3 + 2) (.int .i64 x.2.2) = (l.set i x).flatMap encE
  | [], i, h => by simp at h
  | y :: l, 0, _ => rfl
  | y :: l, i + 1, h => by
    have ih := flat_set x l i (by simpa using h)
    rw [show (i + 1) * 3 = i * 3 + 3 by omega, show i * 3 + 3 + 1 = (i * 3 + 1) + 3 by omega, show i * 3 + 3 + 2 = (i * 3 + 2) + 3 by omega]
    show ((((([.int .i64 y.1, .int .i64 y.2.1, .int .i64 y.2.2] : List Value) ++ l.flatMap encE).set _ _).set _ _).set _ _) = ([.int .i64 y.1, .int .i64 y.2.1, .int .i64 y.2.2] : List Value) ++ (l.set i x).flatMap encE
    rw [← ih]; rfl
abbrev cellsE (x : Ent) : Array Value := #[.int .i64 x.1, .int .i64 x.2.1, .int .i64 x.2.2]
theorem own_set {w : World} {base g n cap : Nat} {l : List Ent} (h : w.ownsRow base 52 3 (.slice (some ⟨g, 0, none⟩) n cap) n (l.flatMap encE)) (i : Nat) (hi : i < l.length) (x : Ent) :
    (w.setCells g (i * 3) (cellsE x).toList).ownsRow base 52 3 (.slice (some ⟨g, 0, none⟩) n cap) n ((l.set i x).flatMap encE) ∧ Only (fun k => k = g) w (w.setCells g (i * 3) (cellsE x).toList) := by
  have h1 := h.stored (i * 3) (.int .i64 x.1)
  have h2 := h1.1.stored (i * 3 + 1) (.int .i64 x.2.1)
  have h3 := h2.1.stored (i * 3 + 2) (.int .i64 x.2.2)
  rw [flat_set x l i hi] at h3
  refine ⟨h3.1, ?_⟩
  refine ⟨rfl, rfl, rfl, by simp [World.setCells], fun k hk hb => ?_⟩
  show ((((w.setCell _ _).setCell _ _).setCell _ _).heap[k]?) = _
  rw [heap_setCell_other _ _ _ _ hb, heap_setCell_other _ _ _ _ hb, heap_setCell_other _ _ _ _ hb]
theorem own_there {w : World} {base g n cap : Nat} {l : List Ent} (h : w.ownsRow base 52 3 (.slice (some ⟨g, 0, none⟩) n cap) n (l.flatMap encE)) (hn : n = l.length) (i : Nat) (hi : i < l.length) : w.there g (i * 3) 3 := by
  subst hn
  rcases h.2 with ⟨h0, _⟩ | ⟨g', cap', cur, hv, h2, h3, h4, h5, h6, h7⟩
  · cases h0
  · injection hv with hv _ hc
    injection hv with hv
    injection hv with hv
    subst hv hc
    intro j hj
    have hlt : i * 3 + j < cur.size := by omega
    constructor
    · simp only [World.cell?, h3, Array.getElem?_eq_getElem hlt]; rfl
    · simp [World.frozen?, h3]
theorem run_setE {w : World} {base g n cap : Nat} {l : List Ent} (h : w.ownsRow base 52 3 (.slice (some ⟨g, 0, none⟩) n cap) n (l.flatMap encE)) (hn : n = l.length) (i : Nat) (hi : i < l.length) (x : Ent) :
    (Instr.storeAt 52 (.pointer (some ⟨g, i * 3, none⟩)) (.agg (cellsE x))).run Try.prog w = .ok () (w.setCells g (i * 3) (cellsE x).toList) :=
  run_storeAt_mid w g (i * 3) 52 (cellsE x) (own_there h hn i hi) (by kernel_rfl) (by simp [Value.oneCell'])
/-! A swap. -/
def swapL (l : List Ent) (i j : Nat) (x y : Ent) : List Ent := (l.set i y).set j x
theorem swap_perm {l : List Ent} {i j : Nat} {x y : Ent} (hx : l[i]? = some x) (hy : l[j]? = some y) : (swapL l i j x y).Perm l := by
  obtain ⟨hi, hx⟩ := List.getElem?_eq_some_iff.1 hx
  obtain ⟨hj, hy⟩ := List.getElem?_eq_some_iff.1 hy
  subst hx hy
  unfold swapL
  exact List.set_set_perm hi hj
theorem swap_len (l : List Ent) (i j : Nat) (x y : Ent) : (swapL l i j x y).length = l.length := by unfold swapL; simp
end Go.Proofs.Ytimiehnknehagaa
