import Derived.Test.YtimiehnknehagaaInsRow
import Derived.Test.YtimiehnknehagaaStM
import Derived.Test.YtimiehnknehagaaProg
set_option linter.unusedSimpArgs false
set_option linter.unusedVariables false
namespace Go.Proofs.Ytimiehnknehagaa
open Go.RowKit
/-! A sorted list of numbers, each once. -/
def SortedI (S : Int → Prop) (out : List Int) : Prop := out.Pairwise (· < ·) ∧ ∀ x, x ∈ out ↔ S x
theorem SortedI.at {S : Int → Prop} {out : List Int} (h : SortedI S out) {i j : Nat} {x y : Int} (hx : out[i]? = some x) (hy : out[j]? = some y) (hlt : i < j) : x < y := by
  obtain ⟨h1, h2⟩ := List.getElem?_eq_some_iff.1 hx
  obtain ⟨h3, h4⟩ := List.getElem?_eq_some_iff.1 hy
  have := List.pairwise_iff_getElem.1 h.1 i j h1 h3 hlt
  rwa [h2, h4] at this
theorem SortedI.ins {S : Int → Prop} {out : List Int} {x : Int} {k : Nat} (h : SortedI S out) (hlt : ∀ j y, j < k → out[j]? = some y → y < x) (hge : ∀ y, out[k]? = some y → x < y) :
    SortedI (fun y => S y ∨ y = x) (out.take k ++ [x] ++ out.drop k) := by
  have hL : ∀ y ∈ out.take k, y < x := fun y hy => by
    obtain ⟨j, hj, e⟩ := List.getElem_of_mem hy
    rw [List.length_take] at hj
    refine hlt j y (by omega) ?_
    rw [← e, List.getElem_take, List.getElem?_eq_getElem]
  have hR : ∀ y ∈ out.drop k, x < y := fun y hy => by
    obtain ⟨j, hj, e⟩ := List.getElem_of_mem hy
    rw [List.length_drop] at hj
    have hk : k < out.length := by omega
    have h1 := hge _ (List.getElem?_eq_getElem hk)
    have hj2 : out[k + j]? = some y := by rw [← e, List.getElem_drop, List.getElem?_eq_getElem]
    rcases Nat.eq_zero_or_pos j with hj0 | hj0
    · subst hj0
      rw [Nat.add_zero, List.getElem?_eq_getElem hk] at hj2
      rw [← Option.some.inj hj2]; exact h1
    · have := h.at (List.getElem?_eq_getElem hk) hj2 (by omega)
      omega
  refine ⟨?_, fun y => ?_⟩
  · have h0 := h.1
    rw [← List.take_append_drop k out, List.pairwise_append] at h0
    obtain ⟨p1, p2, p3⟩ := h0
    rw [List.append_assoc, List.pairwise_append]
    refine ⟨p1, ?_, fun a ha b hb => ?_⟩
    · rw [List.singleton_append, List.pairwise_cons]
      exact ⟨hR, p2⟩
    · rw [List.singleton_append, List.mem_cons] at hb
      rcases hb with rfl | hb
      · exact hL a ha
      · exact p3 a ha b hb
  · show _ ↔ S y ∨ y = x
    rw [← h.2 y]
    constructor
    · intro hy
      rcases List.mem_append.1 hy with hy | hy
      · rcases List.mem_append.1 hy with hy | hy
        · exact .inl (List.mem_of_mem_take hy)
        · exact .inr (List.mem_singleton.1 hy)
      · exact .inl (List.mem_of_mem_drop hy)
    · rintro (hy | rfl)
      · rw [← List.take_append_drop k out] at hy
        rcases List.mem_append.1 hy with hy | hy <;> simp [hy]
      · simp
theorem SortedI.same {S : Int → Prop} {out : List Int} {x : Int} {k : Nat} (h : SortedI S out) (hx : out[k]? = some x) : SortedI (fun y => S y ∨ y = x) out :=
  ⟨h.1, fun y => (h.2 y).trans ⟨.inl, fun hy => by
    rcases hy with hy | rfl
    · exact hy
    · exact (h.2 y).1 (List.mem_of_getElem? hx)⟩⟩
theorem SortedI.congr {S T : Int → Prop} {out : List Int} (h : SortedI S out) (he : ∀ x, S x ↔ T x) : SortedI T out := ⟨h.1, fun x => (h.2 x).trans (he x)⟩
/-! What a call owns. -/
theorem empty_own (w : World) (t : TypeId) (k : Nat) : (w.alloc (.cells #[] t)).ownsRow w.heap.size t k (.slice (some ⟨w.heap.size, 0, none⟩) 0 0) 0 [] :=
  ⟨by simp, .inr ⟨w.heap.size, 0, #[], rfl, Nat.le_refl _, Blk.new w #[] t, Nat.le_refl _, by simp [maxLen], by simp, by simp⟩⟩
theorem own_cell {α : Type} {enc : α → List Value} {k : Nat} (hk : ∀ x, (enc x).length = k) {w : World} {base g n cap : Nat} {t : TypeId} {l : List α} (h : w.ownsRow base t k (.slice (some ⟨g, 0, none⟩) n cap) n (l.flatMap enc)) (hn : n = l.length) (hn9 : n ≤ 9223372036854775807) (i : Nat) (x : α) (hx : l[i]? = some x) (j : Nat) (u : Value) (hu : (enc x)[j]? = some u) :
    w.cell? ⟨g, i * k + j, none⟩ = some u := by
  obtain ⟨a, c, hv, _, _, hs⟩ := RowsAt.own hk h hn hn9
  injection hv with hv _ _
  obtain ⟨b, o, hae, _, e⟩ := hs (by have := (List.getElem?_eq_some_iff.1 hx).1; omega)
  rw [← hv] at hae
  injection hae with hae
  injection hae with h7 h8 _
  subst h7 h8
  have := e i x hx j u hu
  rwa [Nat.zero_add] at this
theorem own_ad' {w : World} {base n cap k : Nat} {t : TypeId} {ad : Option Addr} {xs : List Value} (h : w.ownsRow base t k (.slice ad n cap) n xs) : (n = 0 ∧ ad = none ∧ cap = 0) ∨ ∃ g, ad = some ⟨g, 0, none⟩ ∧ base ≤ g ∧ g < w.heap.size ∧ n ≤ cap ∧ cap ≤ 9223372036854775807 ∧ ∀ i, w.frozen? ⟨g, i, none⟩ = false := by
  rcases h.2 with ⟨h0, h1⟩ | ⟨g, cap', cur, hv, h2, h3, h4, h5, h6, h7⟩
  · injection h0 with q1 q2 q3
    exact .inl ⟨h1, q1, q3⟩
  · injection hv with q1 q2 q3
    subst q3
    exact .inr ⟨g, q1, h2, lt_of_block h3, h4, by unfold maxLen at h5; omega, fun i => by simp [World.frozen?, h3]⟩
theorem sl_loan : Try.prog.underlying 22 = some (.slice 58) := by kernel_rfl
theorem loan_info : (Try.prog.info? 58).map (fun i => (i.zero, i.size, i.bytes)) = some (some (.agg #[.int .i64 0, .int .i64 0, .int .i64 0, .int .i64 0, .int .i64 0, .int .i64 0, .bool false, .int .i64 0, .int .i64 0, .int .i64 0, .int .i64 0, .int .i64 0, .int .i64 0]), 13, 104) := by kernel_rfl
theorem sl_int : Try.prog.underlying 50 = some (.slice 3) := by kernel_rfl
theorem int_info : (Try.prog.info? 3).map (fun i => (i.zero, i.size, i.bytes)) = some (some (.int .i64 0), 1, 8) := by kernel_rfl
theorem sl_bill : Try.prog.underlying 23 = some (.slice 56) := by kernel_rfl
theorem bill_info : (Try.prog.info? 56).map (fun i => (i.zero, i.size, i.bytes)) = some (some (.agg #[.int .i64 0, .int .i64 0, .int .i64 0, .int .i64 0, .int .i64 0, .slice none 0 0]), 6, 64) := by kernel_rfl
end Go.Proofs.Ytimiehnknehagaa
