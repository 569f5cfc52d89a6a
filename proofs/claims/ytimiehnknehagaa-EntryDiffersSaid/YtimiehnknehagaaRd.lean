import Derived.ChangeArms
import Derived.OpenShut
import Derived.Below
import Derived.DataReads
import Derived.Deep.Slices
set_option linter.unusedSimpArgs false
set_option linter.unusedVariables false
namespace Go.Proofs.Ytimiehnknehagaa
open Go.RowKit
/-! Arguments read as plain data: a kind says how many cells a type has and what they hold; each kind can be opened out of the form's own reading, and stays while only new memory is made. -/
structure Kd (P : Program) (t : TypeId) (α : Type) where
  n : Nat
  hn : P.cellsOf t = n
  R : World → α → List Value → Prop
  opn : ∀ {H : Type} {enc : TypeId × Value → H} {w : World} {base : Nat} {sp : Nat → Bool} {held : Bool} {fuel : Nat} {cs : List Value} {x : DataW H × List MemPlace}, DataW.trod enc P w base sp held fuel t cs = some x → ∃ a, R w a cs
  keep : ∀ {w w' : World} {a : α} {cs : List Value}, Below w.heap.size w w' → R w a cs → R w' a cs
def Kd.int {P : Program} {t : TypeId} {k : IntKind} (ht : P.underlying t = some (.int k)) (hn : P.cellsOf t = 1) : Kd P t Int where
  n := 1
  hn := hn
  R := fun _ a cs => cs = [.int k a] ∧ (Lit.int k a).wf = true
  opn := fun h => by
    obtain ⟨n, h1, _, h2⟩ := DataW.trod_int ht h
    exact ⟨n, h1, h2⟩
  keep := fun _ h => h
def Kd.bool {P : Program} {t : TypeId} (ht : P.underlying t = some .bool) (hn : P.cellsOf t = 1) : Kd P t Bool where
  n := 1
  hn := hn
  R := fun _ a cs => cs = [.bool a]
  opn := fun h => by
    obtain ⟨b, h1, _⟩ := DataW.trod_bool ht h
    exact ⟨b, h1⟩
  keep := fun _ h => h
def Kd.str {P : Program} {t : TypeId} (ht : P.underlying t = some .string) (hn : P.cellsOf t = 1) : Kd P t ByteArray where
  n := 1
  hn := hn
  R := fun _ a cs => cs = [.string a] ∧ a.size ≤ maxLen
  opn := fun h => by
    obtain ⟨s, h1, _, h2⟩ := DataW.trod_string ht h
    exact ⟨s, h1, h2⟩
  keep := fun _ h => h
theorem trod_float {H : Type} {enc : TypeId × Value → H} {P : Program} {w : World} {base : Nat} {sp : Nat → Bool} {held : Bool} {fuel : Nat} {t : TypeId} {cs : List Value} {x : DataW H × List MemPlace} {k : FloatKind} (ht : P.underlying t = some (.float k)) (h : DataW.trod enc P w base sp held fuel t cs = some x) :
    ∃ n, cs = [.float k n] ∧ (Lit.float k n).wf = true := by
  cases fuel with
  | zero => simp [DataW.trod] at h
  | succ n =>
    unfold DataW.trod at h
    rw [ht] at h
    split at h <;> simp_all
def Kd.float {P : Program} {t : TypeId} {k : FloatKind} (ht : P.underlying t = some (.float k)) (hn : P.cellsOf t = 1) : Kd P t Nat where
  n := 1
  hn := hn
  R := fun _ a cs => cs = [.float k a] ∧ (Lit.float k a).wf = true
  opn := fun h => by
    obtain ⟨s, h1, h2⟩ := trod_float ht h
    exact ⟨s, h1, h2⟩
  keep := fun _ h => h
/-- The fields of a struct, one behind the other, as a nested pair. -/
structure Fk (P : Program) (fs : List Field) (α : Type) where
  R : World → α → List Value → Prop
  opn : ∀ {H : Type} {enc : TypeId × Value → H} {w : World} {base : Nat} {sp : Nat → Bool} {held : Bool} {fuel : Nat} {cs : List Value} {xs : List (DataW H × List MemPlace)}, xs.length = fs.length →
    (∀ (i : Nat) (f : Field), fs[i]? = some f → DataW.trod enc P w base sp held fuel f.type ((cs.drop f.offset).take (P.cellsOf f.type)) = xs[i]?) → ∃ a, R w a cs
  keep : ∀ {w w' : World} {a : α} {cs : List Value}, Below w.heap.size w w' → R w a cs → R w' a cs
def Fk.nil {P : Program} : Fk P [] Unit where
  R := fun _ _ _ => True
  opn := fun _ _ => ⟨(), trivial⟩
  keep := fun _ h => h
def Fk.cons {P : Program} {f : Field} {fs : List Field} {α β : Type} (K : Kd P f.type α) (F : Fk P fs β) : Fk P (f :: fs) (α × β) where
  R := fun w a cs => K.R w a.1 ((cs.drop f.offset).take K.n) ∧ F.R w a.2 cs
  opn := fun {H enc w base sp held fuel cs xs} hl h => by
    cases xs with
    | nil => simp at hl
    | cons x xs =>
      have h0 := h 0 f rfl
      obtain ⟨a, ha⟩ := K.opn (by simpa using h0)
      obtain ⟨b, hb⟩ := F.opn (enc := enc) (w := w) (base := base) (sp := sp) (held := held) (fuel := fuel) (cs := cs) (xs := xs) (by simpa using hl) (fun i g hg => by simpa using h (i + 1) g (by simpa using hg))
      rw [K.hn] at ha
      exact ⟨(a, b), ha, hb⟩
  keep := fun hb h => ⟨K.keep hb h.1, F.keep hb h.2⟩
def Kd.struct {P : Program} {t : TypeId} {fs : List Field} {α : Type} (ht : P.underlying t = some (.struct fs.toArray)) (F : Fk P fs α) (n : Nat) (hn : P.cellsOf t = n) : Kd P t α where
  n := n
  hn := hn
  R := fun w a cs => cs.length = n ∧ F.R w a cs
  opn := fun h => by
    obtain ⟨xs, m, _, _, h1, h2, h3⟩ := DataW.trod_struct ht h
    obtain ⟨a, ha⟩ := F.opn (by simpa using h2) (fun i f hf => h3 i f (by simpa using hf))
    exact ⟨a, h1.trans hn, ha⟩
  keep := fun hb h => ⟨h.1, F.keep hb h.2⟩
theorem add_plain (b o j : Nat) : (⟨b, o, none⟩ : Addr).add j = ⟨b, o + j, none⟩ := by unfold Addr.add; split <;> simp_all
/-- Cells o, o + 1, .. of block b. -/
def Cs (w : World) (b o : Nat) (cs : List Value) : Prop := ∀ j, j < cs.length → w.cell? ⟨b, o + j, none⟩ = cs[j]?
theorem Cs.keep {w w' : World} {b o : Nat} {cs : List Value} (h : Cs w b o cs) (hb : Below w.heap.size w w') : Cs w' b o cs := fun j hj => by
  have h1 := h j hj
  have hlt : b < w.heap.size := World.block_lt_of_cell? w ⟨b, o + j, none⟩ (h1.trans (List.getElem?_eq_getElem hj))
  exact (hb.cell (p := ⟨b, o + j, none⟩) hlt).trans h1
/-- A slice of kind K: its elements l. -/
def SlR {P : Program} {e : TypeId} {α : Type} (K : Kd P e α) (w : World) (l : List α) (v : Value) : Prop :=
  ∃ (ad : Option Addr) (cap : Nat), v = .slice ad l.length cap ∧ l.length ≤ cap ∧ cap ≤ maxLen ∧ (ad = none → l = []) ∧
    ∀ (i : Nat) (a : α), l[i]? = some a → ∃ b o cs, ad = some ⟨b, o, none⟩ ∧ cs.length = K.n ∧ Cs w b (o + i * K.n) cs ∧ K.R w a cs
theorem SlR.keep {P : Program} {e : TypeId} {α : Type} {K : Kd P e α} {w w' : World} {l : List α} {v : Value} (h : SlR K w l v) (hb : Below w.heap.size w w') : SlR K w' l v := by
  obtain ⟨ad, cap, h1, h2, h3, h4, h5⟩ := h
  refine ⟨ad, cap, h1, h2, h3, h4, fun i a hi => ?_⟩
  obtain ⟨b, o, cs, e1, e2, e3, e4⟩ := h5 i a hi
  exact ⟨b, o, cs, e1, e2, e3.keep hb, K.keep hb e4⟩
theorem lists_lt {α : Type} {n : Nat} {p : Nat → α → Prop} (h : ∀ i, i < n → ∃ x, p i x) : ∃ l : List α, l.length = n ∧ ∀ i a, l[i]? = some a → p i a := by
  induction n with
  | zero => exact ⟨[], rfl, by simp⟩
  | succ n ih =>
    obtain ⟨l, hl, hp⟩ := ih (fun i hi => h i (Nat.lt_succ_of_lt hi))
    obtain ⟨x, hx⟩ := h n (Nat.lt_succ_self n)
    refine ⟨l ++ [x], by simp [hl], fun i a hi => ?_⟩
    rw [List.getElem?_append] at hi
    split at hi
    · exact hp i a hi
    · rename_i hge
      have : i = n := by
        have := (List.getElem?_eq_some_iff.1 hi).1
        simp at this; omega
      subst this
      simp [hl] at hi
      subst hi; exact hx
def Kd.slice {P : Program} {t e : TypeId} {α : Type} (ht : P.underlying t = some (.slice e)) (hn : P.cellsOf t = 1) (K : Kd P e α) (hpos : 0 < K.n) : Kd P t (List α) where
  n := 1
  hn := hn
  R := fun w l cs => ∃ v, cs = [v] ∧ SlR K w l v
  opn := fun {H enc w base sp held fuel cs x} h => by
    rcases Go.Deep.open_slice ht h with ⟨rfl, _⟩ | ⟨a, len, cap, m, n, D, Pl, rfl, hb, hl, hm, hme, _, hel⟩
    · exact ⟨[], _, rfl, none, 0, rfl, Nat.le_refl _, Nat.zero_le _, fun _ => rfl, by simp⟩
    · have hlm : len ≤ m := by rw [hme]; split <;> omega
      have hsp0 : 0 < len → a.spot = none := fun h0 => by
        obtain ⟨cs', h1, _⟩ := hel 0 (by omega)
        rw [K.hn, Nat.zero_mul] at h1
        obtain ⟨_, hlen, hc⟩ := World.cells?_some h1
        have h2 := hc 0 (by omega)
        rw [List.getElem?_eq_getElem (by omega)] at h2
        have e : (a.add 0).add 0 = a := by simp [Addr.add]
        rw [e] at h2
        cases hs : a.spot with
        | none => rfl
        | some s =>
          exfalso
          unfold World.cell? at h2
          split at h2
          · simp [hs] at h2
          · simp at h2
      have hex : ∀ i, i < len → ∃ x : α, ∃ b o cs, some a = some ⟨b, o, none⟩ ∧ cs.length = K.n ∧ Cs w b (o + i * K.n) cs ∧ K.R w x cs := by
        intro i hi
        obtain ⟨cs', h1, h2⟩ := hel i (Nat.lt_of_lt_of_le hi hlm)
        obtain ⟨y, hy⟩ := K.opn h2
        rw [K.hn] at h1
        obtain ⟨hb', hlen, hc⟩ := World.cells?_some h1
        have hnone := hsp0 (by omega)
        obtain ⟨b, o, s⟩ := a
        simp only at hnone
        subst hnone
        refine ⟨y, b, o, cs', rfl, hlen, fun j hj => ?_, hy⟩
        have := hc j (by omega)
        rw [Go.Deep.add_add, add_plain, ← Nat.add_assoc] at this
        exact this
      obtain ⟨l, hl1, hl2⟩ := lists_lt hex
      refine ⟨l, _, rfl, some a, cap, by rw [hl1], by rw [hl1]; exact hl, hm, by simp, fun i x hi => hl2 i x hi⟩
  keep := fun hb h => by
    obtain ⟨v, h1, h2⟩ := h
    exact ⟨v, h1, h2.keep hb⟩
/-- An array of kind K. -/
def Kd.arr {P : Program} {t e : TypeId} {α : Type} {n : Nat} (ht : P.underlying t = some (.array n e)) (K : Kd P e α) (m : Nat) (hn : P.cellsOf t = m) : Kd P t (List α) where
  n := m
  hn := hn
  R := fun w l cs => cs.length = m ∧ l.length = n ∧ ∀ i a, l[i]? = some a → K.R w a ((cs.drop (i * K.n)).take K.n)
  opn := fun {H enc w base sp held fuel cs x} h => by
    obtain ⟨xs, k, _, _, h1, h2, h3⟩ := DataW.trod_array ht h
    have hex : ∀ i, i < n → ∃ a, K.R w a ((cs.drop (i * K.n)).take K.n) := fun i hi => by
      have h4 := h3 i hi
      rw [List.getElem?_eq_getElem (by omega)] at h4
      obtain ⟨a, ha⟩ := K.opn h4
      rw [K.hn] at ha
      exact ⟨a, ha⟩
    obtain ⟨l, hl1, hl2⟩ := lists_lt hex
    exact ⟨l, h1.trans hn, hl1, hl2⟩
  keep := fun hb h => ⟨h.1, h.2.1, fun i a hi => K.keep hb (h.2.2 i a hi)⟩
theorem okWide_array {P : Program} {w : World} {r : Reach} {base n : Nat} {t e : TypeId} {v : Value} (ht : P.underlying t = some (.array n e)) (h : Value.okWide P w r base t v) : ∃ cs, v = .agg cs ∧ cs.size = P.cellsOf t := by
  simp only [Value.okWide, ht] at h
  obtain ⟨cs, h1, h2, _⟩ := h
  exact ⟨cs, h1, h2⟩
end Go.Proofs.Ytimiehnknehagaa
