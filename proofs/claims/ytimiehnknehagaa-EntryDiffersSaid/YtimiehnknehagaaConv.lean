import Derived.Test.YtimiehnknehagaaLw
import Derived.Lib.SlBytesRow
import Derived.Laws.IdiomStrings
import Derived.Laws.MakeOwn
import Derived.OwnWalk
set_option linter.unusedSimpArgs false
set_option linter.unusedVariables false
namespace Go.Proofs.Ytimiehnknehagaa
open Go.RowKit
/-- Block g holds the bytes l, which may be written. -/
def RowB (w : World) (g : Nat) (l : List UInt8) : Prop := ∀ j (hj : j < l.length), w.cell? ⟨g, j, none⟩ = some (.int .u8 (l[j].toNat : Int)) ∧ w.frozen? ⟨g, j, none⟩ = false
theorem RowB.below {w w' : World} {B g : Nat} {l : List UInt8} (h : RowB w g l) (hb : Below B w w') (hg : g < B) : RowB w' g l := fun j hj =>
  ⟨(hb.cell (p := ⟨g, j, none⟩) hg).trans (h j hj).1, (hb.frozen (p := ⟨g, j, none⟩) hg).trans (h j hj).2⟩
theorem RowB.set {w : World} {g : Nat} {l : List UInt8} (h : RowB w g l) (i : Nat) (x : UInt8) (hi : i < l.length) : RowB (w.setCell ⟨g, i, none⟩ (.int .u8 (x.toNat : Int))) g (l.set i x) := fun j hj => by
  have hj' : j < l.length := by simpa using hj
  refine ⟨?_, by rw [World.frozen?_setCell]; exact (h j hj').2⟩
  by_cases e : i = j
  · subst e
    rw [World.cell?_setCell_same _ _ _ (h i hi).1]; simp
  · rw [World.cell?_setCell_other _ _ _ _ (by intro hh; injection hh with _ h2 _; exact e h2), (h j hj').1]
    rw [List.getElem_set_ne e]
theorem bytesRow_get (s : ByteArray) (cap j : Nat) (hj : j < s.data.toList.length) : (bytesRow s cap)[j]? = some (.int .u8 (s.data.toList[j].toNat : Int)) := by
  unfold bytesRow
  have h2 : j < s.data.size := by simpa using hj
  rw [Array.getElem?_append_left (by simpa using h2), Array.getElem?_map, Array.getElem?_eq_getElem h2]
  rfl
section
variable {P : Program} {ops : Array Oper} {rest : List Oper} {a : Act} {w : World} {Q : Exit → Act → World → Prop} {d : Option Tmp} {ty : TypeId} {ps : String} {af : Array Edge} {x y : Operand}
/-- 'string(b)' where b's cells are the bytes l. -/
theorem at_toStr {src dst e : TypeId} (hs : P.underlying src = some (.slice e)) (he : P.underlying e = some (.int .u8)) (hd : P.underlying dst = some .string)
    (b o cap : Nat) (l : List UInt8) (n : Nat) (hn : n = l.length) (hx : a.eval x = .slice (some ⟨b, o, none⟩) n cap) (hc : ∀ j (hj : j < l.length), w.cell? ⟨b, o + j, none⟩ = some (.int .u8 (l[j].toNat : Int)))
    (h : wpList P ops Q rest (a.put d (.string ⟨l.toArray⟩)) w) :
    wpList P ops Q (⟨d, .convert src dst x, ty, ps, af, none⟩ :: rest) a w := by
  subst hn
  refine Great.wpList_runTo rfl _ rfl (.string ⟨l.toArray⟩) w ?_ h
  have hadd : ∀ j, (⟨b, o, none⟩ : Addr).add j = ⟨b, o + j, none⟩ := fun j => Addr.add_mid b o j
  have := run_convert_bytes_back (P := P) w src dst e ⟨b, o, none⟩ cap l hs he hd (fun j hj => by rw [hadd]; exact hc j hj)
  unfold execOp
  simp only [hx, Sem.run_bind, this, Result.andThen_ok, Sem.run_pure]
/-- '[]byte(s)'. -/
theorem at_ofStr {src dst e : TypeId} (hs : P.underlying src = some .string) (hd : P.underlying dst = some (.slice e)) (he : P.underlying e = some (.int .u8))
    (s : ByteArray) (hx : a.eval x = .string s)
    (h : ∀ w1 cap, Below w.heap.size w w1 → w1.heap.size = w.heap.size + 1 → RowB w1 w.heap.size s.data.toList → wpList P ops Q rest (a.put d (.slice (some ⟨w.heap.size, 0, none⟩) s.size cap)) w1) :
    wpList P ops Q (⟨d, .convert src dst x, ty, ps, af, none⟩ :: rest) a w := by
  have hr := run_bytes_of_string (P := P) w src dst e s hs hd he
  obtain ⟨w1, hw1⟩ : ∃ w1, w1 = w.drew.alloc (.cells (bytesRow s (grownCap w s.size 0 e)) e ((bytesRow s (grownCap w s.size 0 e)).size, (bytesRow s (grownCap w s.size 0 e)).size + 1)) := ⟨_, rfl⟩
  rw [← hw1] at hr
  refine Great.wpList_runTo rfl d rfl (.slice (some ⟨w.heap.size, 0, none⟩) s.size (grownCap w s.size 0 e)) w1 ?_ (h w1 (grownCap w s.size 0 e) ?_ ?_ ?_)
  · unfold execOp
    simp only [hx, Sem.run_bind, hr, Result.andThen_ok, Sem.run_pure]
  all_goals subst hw1
  · exact ((Below.refl _ _).drew).alloc (Nat.le_refl _) _
  · simp
  · intro j hj
    have hj2 : j < s.size := by simpa using hj
    refine ⟨?_, ?_⟩
    · have h0 := World.cell?_alloc_mark w.drew (bytesRow s (grownCap w s.size 0 e)) e ((bytesRow s (grownCap w s.size 0 e)).size, (bytesRow s (grownCap w s.size 0 e)).size + 1) j
      exact h0.trans (bytesRow_get s _ j hj)
    · have hh : (w.drew.alloc (.cells (bytesRow s (grownCap w s.size 0 e)) e ((bytesRow s (grownCap w s.size 0 e)).size, (bytesRow s (grownCap w s.size 0 e)).size + 1))).heap[w.heap.size]? = some (.cells (bytesRow s (grownCap w s.size 0 e)) e ((bytesRow s (grownCap w s.size 0 e)).size, (bytesRow s (grownCap w s.size 0 e)).size + 1)) := heap_alloc_last w.drew _
      unfold World.frozen?
      rw [hh]
      have hsz : s.size ≤ (bytesRow s (grownCap w s.size 0 e)).size := by unfold bytesRow; simp
      simp; omega
theorem madeCells_one (z : Value) (n : Nat) (hz : z.cells = #[z]) : madeCells z.cells (n * 1) = Array.replicate n z := by
  rw [hz, Nat.mul_one]
  unfold madeCells
  apply Array.ext_getElem?
  intro i
  rw [Array.getElem?_map, Array.getElem?_range, Array.getElem?_replicate]
  by_cases h : i < n
  · simp [h, Nat.mod_one]
  · simp [h]
/-- 'make([]T, n)' of elements of one cell. -/
theorem at_make1 {T e : TypeId} {z : Value} {by_ : Nat} (ht : P.underlying T = some (.slice e)) (hi : (P.info? e).map (fun i => (i.zero, i.size, i.bytes)) = some (some z, 1, by_)) (hz : z.cells = #[z])
    (kl kc : IntKind) (n : Nat) (hx : a.eval x = .int kl (n : Int)) (hy : a.eval y = .int kc (n : Int)) (hb : by_ * n ≤ 281474976710656) (h63 : n ≤ 9223372036854775807)
    (h : wpList P ops Q rest (a.put d (.slice (some ⟨w.heap.size, 0, none⟩) n n)) (w.alloc (.cells (Array.replicate n z) e))) :
    wpList P ops Q (⟨d, .makeSlice T x y, ty, ps, af, none⟩ :: rest) a w := by
  obtain ⟨i, h1, h2, h3, h4⟩ := info_parts hi
  have hb' : (i.bytes : Int) * (n : Int) ≤ 281474976710656 := by rw [h4, ← Int.natCast_mul]; omega
  have hr := run_make w T e i z ht h1 h2 kl kc n n (by omega) (Int.le_refl _) hb' (by omega)
  rw [h3] at hr
  have e1 : (n : Int).toNat = n := Int.toNat_natCast n
  rw [e1, madeCells_one z n hz] at hr
  refine Great.wpList_runTo rfl _ rfl _ _ ?_ h
  unfold execOp
  simp only [hx, hy, Sem.run_bind, hr, Result.andThen_ok, Sem.run_pure]
theorem RowB.new (w : World) (n : Nat) (e : TypeId) : RowB (w.alloc (.cells (Array.replicate n (.int .u8 0)) e)) w.heap.size (List.replicate n 0) := fun j hj => by
  have hj' : j < n := by simpa using hj
  refine ⟨?_, by simp⟩
  rw [World.cell?_alloc_new]
  simp [hj']
/-- 'make([]byte, n)', the world behind it a variable. -/
theorem at_makeB {T e : TypeId} {by_ : Nat} (ht : P.underlying T = some (.slice e)) (hi : (P.info? e).map (fun i => (i.zero, i.size, i.bytes)) = some (some (.int .u8 0), 1, by_))
    (kl kc : IntKind) (n : Nat) (hx : a.eval x = .int kl (n : Int)) (hy : a.eval y = .int kc (n : Int)) (hb : by_ * n ≤ 281474976710656) (h63 : n ≤ 9223372036854775807)
    (h : ∀ w1, Below w.heap.size w w1 → w1.heap.size = w.heap.size + 1 → RowB w1 w.heap.size (List.replicate n 0) → wpList P ops Q rest (a.put d (.slice (some ⟨w.heap.size, 0, none⟩) n n)) w1) :
    wpList P ops Q (⟨d, .makeSlice T x y, ty, ps, af, none⟩ :: rest) a w :=
  at_make1 ht hi rfl kl kc n hx hy hb h63 (h _ ((Below.refl _ _).alloc (Nat.le_refl _) _) (by simp) (RowB.new w n e))
end
end Go.Proofs.Ytimiehnknehagaa
