import Derived.Test.YtimiehnknehagaaInsPlain
import Derived.Test.YtimiehnknehagaaInsRow
import Derived.Test.YtimiehnknehagaaEntP2
set_option linter.unusedSimpArgs false
set_option linter.unusedVariables false
namespace Go.Proofs.Ytimiehnknehagaa
open Go.RowKit
/-! Rows of the reference's entries that a call owns. -/
theorem rown_empty (w : World) : (w.alloc (.cells #[] 59)).ownsRow w.heap.size 59 3 (.slice (some ⟨w.heap.size, 0, none⟩) 0 0) 0 (([] : List Ent).flatMap encE) :=
  ⟨rfl, .inr ⟨w.heap.size, 0, #[], rfl, Nat.le_refl _, Blk.new w #[] 59, Nat.le_refl _, by decide, rfl, rfl⟩⟩
theorem own_ad {w : World} {base n cap k : Nat} {t : TypeId} {ad : Option Addr} {xs : List Value} (h : w.ownsRow base t k (.slice ad n cap) n xs) : (n = 0 ∧ ad = none ∧ cap = 0) ∨ ∃ g, ad = some ⟨g, 0, none⟩ ∧ base ≤ g ∧ g < w.heap.size ∧ n ≤ cap ∧ cap ≤ 9223372036854775807 ∧ ∀ i, w.frozen? ⟨g, i, none⟩ = false := by
  rcases h.2 with ⟨h0, h1⟩ | ⟨g, cap', cur, hv, h2, h3, h4, h5, h6, h7⟩
  · injection h0 with q1 q2 q3
    exact .inl ⟨h1, q1, q3⟩
  · injection hv with q1 q2 q3
    subst q3
    exact .inr ⟨g, q1, h2, lt_of_block h3, h4, by unfold maxLen at h5; omega, fun i => by simp [World.frozen?, h3]⟩
theorem rown_cells {w : World} {base g n cap : Nat} {t : TypeId} {l : List Ent} (h : w.ownsRow base t 3 (.slice (some ⟨g, 0, none⟩) n cap) n (l.flatMap encE)) (hn : n = l.length) (hn9 : n ≤ 9223372036854775807) (i : Nat) (x : Ent) (hx : l[i]? = some x) :
    w.cell? ⟨g, i * 3, none⟩ = some (.int .i64 x.1) ∧ w.cell? ⟨g, i * 3 + 1, none⟩ = some (.int .i64 x.2.1) ∧ w.cell? ⟨g, i * 3 + 2, none⟩ = some (.int .i64 x.2.2) := by
  obtain ⟨a, c, hv, _, _, hs⟩ := RowsAt.own encE_len h hn hn9
  injection hv with hv _ _
  obtain ⟨b, o, hae, _, e0, e1, e2⟩ := encE_cell hs i x hx
  rw [← hv] at hae
  injection hae with hae
  injection hae with h7 h8 _
  subst h7 h8
  rw [Nat.zero_add] at e0 e1 e2
  exact ⟨e0, e1, e2⟩
theorem flat_set2 (x y : Ent) : ∀ (l : List Ent) (i : Nat), l[i]? = some y → y.1 = x.1 → y.2.1 = x.2.1 → (l.flatMap encE).set (i * 3 + 2) (.int .i64 x.2.2) = (l.set i x).flatMap encE
  | [], i, h => by simp at h
  | z :: l, 0, h => fun h1 h2 => by
    obtain rfl := Option.some.inj h
    show (([.int .i64 z.1, .int .i64 z.2.1, .int .i64 z.2.2] : List Value) ++ l.flatMap encE).set 2 _ = ([.int .i64 x.1, .int .i64 x.2.1, .int .i64 x.2.2] : List Value) ++ l.flatMap encE
    rw [← h1, ← h2]; rfl
  | z :: l, i + 1, h => fun h1 h2 => by
    have ih := flat_set2 x y l i (by simpa using h) h1 h2
    rw [show (i + 1) * 3 + 2 = (i * 3 + 2) + 3 by omega]
    show (([.int .i64 z.1, .int .i64 z.2.1, .int .i64 z.2.2] : List Value) ++ l.flatMap encE).set _ _ = ([.int .i64 z.1, .int .i64 z.2.1, .int .i64 z.2.2] : List Value) ++ (l.set i x).flatMap encE
    rw [← ih]; rfl
theorem rown_set {w : World} {base g n cap : Nat} {t : TypeId} {l : List Ent} (h : w.ownsRow base t 3 (.slice (some ⟨g, 0, none⟩) n cap) n (l.flatMap encE)) (i : Nat) (x y : Ent) (hy : l[i]? = some y) (h1 : y.1 = x.1) (h2 : y.2.1 = x.2.1) :
    (w.setCell ⟨g, i * 3 + 2, none⟩ (.int .i64 x.2.2)).ownsRow base t 3 (.slice (some ⟨g, 0, none⟩) n cap) n ((l.set i x).flatMap encE) ∧ Only (fun k => k = g) w (w.setCell ⟨g, i * 3 + 2, none⟩ (.int .i64 x.2.2)) := by
  have h3 := h.stored (i * 3 + 2) (.int .i64 x.2.2)
  rw [flat_set2 x y l i hy h1 h2] at h3
  refine ⟨h3.1, ⟨rfl, rfl, rfl, by simp, fun k hk hb => ?_⟩⟩
  rw [heap_setCell_other _ _ _ _ hb]
theorem addL_in : ∀ {es : List Ent} {M M' : Int × Int → Option Int}, addL M es = some M' → (∀ k d, M k = some d → in64 d) → ∀ k d, M' k = some d → in64 d
  | [], M, M', h => fun h0 => by
    obtain rfl := Option.some.inj h
    exact h0
  | x :: es, M, M', h => fun h0 => by
    unfold addL at h
    split at h
    · rename_i hin
      refine addL_in h (fun k d hk => ?_)
      unfold updK at hk
      split at hk
      · obtain rfl := Option.some.inj hk
        exact hin
      · exact h0 k d hk
    · cases h
end Go.Proofs.Ytimiehnknehagaa
