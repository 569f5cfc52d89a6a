import Derived.Test.YtimiehnknehagaaLw
import Derived.MapKept
import Derived.Carry
set_option linter.unusedSimpArgs false
set_option linter.unusedVariables false
namespace Go.Proofs.Ytimiehnknehagaa
open Go.RowKit Go.MapKept
/-! What changed: blocks of S at most, and new ones. -/
structure Only (S : Nat → Prop) (w w' : World) : Prop where
  os : w'.os = w.os
  tape : w'.tape = w.tape
  output : w'.output = w.output
  size : w.heap.size ≤ w'.heap.size
  block : ∀ k, k < w.heap.size → ¬ S k → w'.heap[k]? = w.heap[k]?
theorem Only.refl (S : Nat → Prop) (w : World) : Only S w w := ⟨rfl, rfl, rfl, Nat.le_refl _, fun _ _ _ => rfl⟩
theorem Only.trans {S : Nat → Prop} {a b c : World} (h : Only S a b) (k : Only S b c) : Only S a c :=
  ⟨k.os.trans h.os, k.tape.trans h.tape, k.output.trans h.output, Nat.le_trans h.size k.size, fun i hi hs => (k.block i (Nat.lt_of_lt_of_le hi h.size) hs).trans (h.block i hi hs)⟩
theorem Only.mono {S T : Nat → Prop} {a b : World} (h : Only S a b) (hst : ∀ k, k < a.heap.size → S k → T k) : Only T a b :=
  ⟨h.os, h.tape, h.output, h.size, fun i hi hs => h.block i hi (fun hh => hs (hst i hi hh))⟩
/-- Of what was made behind a world nothing need be said of that world. -/
theorem Only.of_below {S : Nat → Prop} {a b : World} (h : Below a.heap.size a b) : Only S a b :=
  ⟨h.os, h.tape, h.output, h.size, fun i hi _ => h.block i hi⟩
theorem Only.below {S : Nat → Prop} {B : Nat} {a b : World} (h : Only S a b) (hB : B ≤ a.heap.size) (hS : ∀ k, k < B → ¬ S k) : Below B a b :=
  ⟨h.os, h.tape, h.output, h.size, fun i hi => h.block i (Nat.lt_of_lt_of_le hi hB) (hS i hi)⟩
theorem Only.blk {S : Nat → Prop} {w w' : World} {b : Nat} {cs : Array Value} {t : TypeId} (h : Only S w w') (hb : Blk w b cs t) (hS : ¬ S b) : Blk w' b cs t :=
  (h.block b hb.lt hS).trans hb
theorem Only.setCell {S : Nat → Prop} {a w : World} (h : Only S a w) {p : Addr} (hp : p.block < a.heap.size → S p.block) (v : Value) : Only S a (w.setCell p v) :=
  ⟨h.os, h.tape, h.output, by simpa [World.setCell] using h.size, fun i hi hs => by
    rw [Below.heap_setCell _ _ _ _ (fun e => hs (by rw [e]; exact hp (by rw [← e]; exact hi)))]; exact h.block i hi hs⟩
theorem Only.drew {S : Nat → Prop} {a w : World} (h : Only S a w) : Only S a w.drew := ⟨h.os, h.tape, h.output, h.size, h.block⟩
theorem Only.alloc {S : Nat → Prop} {a w : World} (h : Only S a w) (o : Obj) : Only S a (w.alloc o) :=
  ⟨h.os, h.tape, h.output, by simp; exact Nat.le_succ_of_le h.size, fun i hi hs => by
    rw [Below.heap_alloc _ _ _ (Nat.lt_of_lt_of_le hi h.size)]; exact h.block i hi hs⟩
/-! Keys. -/
structure MKey (P : Program) (kt : TypeId) {κ : Type} (enc : κ → Value) : Prop where
  inj : ∀ a b, enc a = enc b → a = b
  chk : ∀ em a w, (Instr.checkKey em 10000 kt (enc a)).run P w = .ok () w
  fnd : ∀ a (es : List MapEntry) w, (∀ e ∈ es, ∃ j, e.key = enc j) →
    ((Instr.findKey kt (enc a) es).run P w = .ok none w ∧ ∀ e ∈ es, e.key ≠ enc a) ∨
    ∃ i e, (Instr.findKey kt (enc a) es).run P w = .ok (some (i, e.val)) w ∧ es[i]? = some e ∧ e.key = enc a
  stay : ∀ a w, (Instr.keyThatStays (enc a) (enc a)).run P w = .ok (enc a) w
theorem MKey.plain {P : Program} {kt : TypeId} {d : TypeDesc} {κ : Type} {enc : κ → Value} (hd : P.underlying kt = some d) (hk : ∀ a, IsKey d (enc a)) (inj : ∀ a b, enc a = enc b → a = b) : MKey P kt enc where
  inj := inj
  chk := fun em a w => run_checkKey hd (hk a) em 9999
  fnd := fun a es w hes => by
    rcases findNow_spec (hk a) es 0 (fun x hx => by obtain ⟨j, hj⟩ := hes x hx; rw [hj]; exact hk j) with ⟨h1, h2⟩ | ⟨j, e, h1, h2, h3⟩
    · exact .inl ⟨run_findKey hd h1, h2⟩
    · refine .inr ⟨j, e, ?_, h2, h3⟩
      have := run_findKey (P := P) (w := w) hd h1
      simpa using this
  stay := fun a w => run_keyThatStays (hk a)
theorem MKey.int {P : Program} {kt : TypeId} {q : IntKind} (hd : P.underlying kt = some (.int q)) : MKey P kt (fun n : Int => Value.int q n) :=
  MKey.plain hd (fun _ => rfl) (fun a b h => by injection h)
/-! A map as a function from keys to values. -/
def MapIs (w : World) {κ : Type} (enc : κ → Value) (b : Nat) (f : κ → Option Value) : Prop :=
  ∃ es clock, w.heap[b]? = some (.map es clock) ∧ Stamped es clock ∧ (∀ e ∈ es.toList, ∃ j, e.key = enc j) ∧
    ∀ k v, f k = some v ↔ ∃ e ∈ es.toList, e.key = enc k ∧ e.val = v
section
variable {P : Program} {κ : Type} {enc : κ → Value} {kt et T : TypeId} {w : World} {b : Nat} {f : κ → Option Value}
theorem MapIs.lt (h : MapIs w enc b f) : b < w.heap.size := by
  obtain ⟨es, c, hb, _⟩ := h
  exact (Array.getElem?_eq_some_iff.1 hb).1
theorem MapIs.of_block {w' : World} (h : MapIs w enc b f) (hb : w'.heap[b]? = w.heap[b]?) : MapIs w' enc b f := by
  obtain ⟨es, c, h1, h2⟩ := h
  exact ⟨es, c, hb.trans h1, h2⟩
theorem MapIs.only {S : Nat → Prop} {w' : World} (h : MapIs w enc b f) (ho : Only S w w') (hS : ¬ S b) : MapIs w' enc b f :=
  h.of_block (ho.block b h.lt hS)
theorem MapIs.new (w : World) (enc : κ → Value) : MapIs (w.alloc (.map #[] 0)) enc w.heap.size (fun _ => none) :=
  ⟨#[], 0, (heap_alloc w _).1, stamped_empty 0, by simp, by simp⟩
theorem MapIs.look (K : MKey P kt enc) (hT : P.underlying T = some (.map kt et)) {z : Value} (hz : ∀ w, (zeroValue et).run P w = .ok z w) (h : MapIs w enc b f) (k : κ) (c : Bool) :
    (Instr.lookup T (.map (some b)) (enc k) c).run P w = .ok (if c then .tuple #[(f k).getD z, .bool (f k).isSome] else (f k).getD z) w := by
  obtain ⟨es, clock, hb, hs, hes, hf⟩ := h
  rcases K.fnd k es.toList w hes with ⟨h1, h2⟩ | ⟨i, e, h1, h2, h3⟩
  · have hn : f k = none := by
      cases hk : f k with
      | none => rfl
      | some v => obtain ⟨e, he, hk', _⟩ := (hf k v).1 hk; exact absurd hk' (h2 e he)
    simp [Instr.lookup, run_underlying hT, MapKept.run_getObj_map hb, K.chk, h1, hz, Result.andThen, hn]
  · have hn : f k = some e.val := (hf k e.val).2 ⟨e, List.mem_of_getElem? h2, h3, rfl⟩
    simp [Instr.lookup, run_underlying hT, MapKept.run_getObj_map hb, K.chk, h1, Result.andThen, hn]
theorem nodup_idx {α : Type} {l : List α} (h : l.Nodup) {i j : Nat} {x : α} (hi : l[i]? = some x) (hj : l[j]? = some x) : i = j := by
  obtain ⟨h1, e1⟩ := List.getElem?_eq_some_iff.1 hi
  obtain ⟨h2, e2⟩ := List.getElem?_eq_some_iff.1 hj
  have hp := List.pairwise_iff_getElem.1 h
  rcases Nat.lt_trichotomy i j with hlt | rfl | hlt
  · exact absurd (e1.trans e2.symm) (hp i j h1 h2 hlt)
  · rfl
  · exact absurd (e2.trans e1.symm) (hp j i h2 h1 hlt)
theorem stamped_key_inj {es : Array MapEntry} {clock : Nat} (h : Stamped es clock) {x y : MapEntry} (hx : x ∈ es.toList) (hy : y ∈ es.toList) (e : x.key = y.key) : x = y := by
  obtain ⟨_, _, h3⟩ := h
  obtain ⟨i, hi⟩ := List.mem_iff_getElem?.1 hx
  obtain ⟨j, hj⟩ := List.mem_iff_getElem?.1 hy
  have a1 : (es.toList.map (·.key))[i]? = some x.key := by rw [List.getElem?_map, hi]; rfl
  have a2 : (es.toList.map (·.key))[j]? = some x.key := by rw [List.getElem?_map, hj, e]; rfl
  have := nodup_idx h3 a1 a2
  subst this
  rw [hi] at hj
  injection hj
theorem MapIs.put [DecidableEq κ] (K : MKey P kt enc) (hT : P.underlying T = some (.map kt et)) (h : MapIs w enc b f) (k : κ) (v : Value) :
    ∃ w', (Instr.mapUpdate T (.map (some b)) (enc k) v).run P w = .ok () w' ∧ MapIs w' enc b (fun j => if j = k then some v else f j) ∧ Only (· = b) w w' ∧ w'.heap.size = w.heap.size := by
  have hlt := h.lt
  obtain ⟨es, clock, hb, hs, hes, hf⟩ := h
  have only : ∀ o, Only (· = b) w { w with heap := w.heap.setIfInBounds b o } := fun o =>
    ⟨rfl, rfl, rfl, by simp, fun i _ hs => (heap_set hb).2 i hs⟩
  rcases K.fnd k es.toList w hes with ⟨h1, h2⟩ | ⟨i, e, h1, h2, h3⟩
  · refine ⟨{ w with heap := w.heap.setIfInBounds b (.map (es.push { key := enc k, val := v, born := clock }) (clock + 1)) }, ?_, ?_, only _, by simp⟩
    · simp [Instr.mapUpdate, run_underlying hT, MapKept.run_getObj_map hb, K.chk, h1, MapKept.run_setObj_map _ hb, Result.andThen]
    · refine ⟨_, _, (heap_set hb).1, stamped_push hs h2, ?_, ?_⟩
      · intro x hx
        simp only [Array.toList_push, List.mem_append, List.mem_singleton] at hx
        rcases hx with hx | rfl
        · exact hes x hx
        · exact ⟨k, rfl⟩
      · intro j u
        simp only [Array.toList_push, List.mem_append, List.mem_singleton]
        by_cases hj : j = k
        · subst hj
          rw [if_pos rfl]
          constructor
          · intro hu
            injection hu with hu
            exact ⟨_, .inr rfl, rfl, hu⟩
          · rintro ⟨x, hx | rfl, hk, hv⟩
            · exact absurd hk (h2 x hx)
            · rw [← hv]
        · rw [if_neg hj, hf j u]
          constructor
          · rintro ⟨x, hx, hk, hv⟩; exact ⟨x, .inl hx, hk, hv⟩
          · rintro ⟨x, hx | rfl, hk, hv⟩
            · exact ⟨x, hx, hk, hv⟩
            · exact absurd (K.inj _ _ hk).symm hj
  · have hei : es[i]? = some e := by simpa using h2
    have hmem : e ∈ es.toList := List.mem_of_getElem? h2
    have hlen : i < es.size := (Array.getElem?_eq_some_iff.1 hei).1
    have hkey : ∀ e', es[i]? = some e' → ({ e' with key := enc k, val := v } : MapEntry).key = e'.key := fun e' he' => by rw [hei] at he'; cases he'; exact h3.symm
    refine ⟨{ w with heap := w.heap.setIfInBounds b (.map (es.modify i fun e => { e with key := enc k, val := v }) clock) }, ?_, ?_, only _, by simp⟩
    · simp [Instr.mapUpdate, run_underlying hT, MapKept.run_getObj_map hb, K.chk, h1, hei, h3, K.stay, MapKept.run_setObj_map _ hb, Result.andThen]
    · have hmod : ∀ x, x ∈ (es.modify i fun e => { e with key := enc k, val := v }).toList ↔ (x ∈ es.toList ∧ x.key ≠ enc k) ∨ x = { e with key := enc k, val := v } := by
        intro x
        rw [List.mem_iff_getElem?]
        constructor
        · rintro ⟨j, hj⟩
          rw [Array.getElem?_toList, Array.getElem?_modify] at hj
          by_cases hij : i = j
          · subst hij
            rw [if_pos rfl, hei] at hj
            simp at hj
            exact .inr hj.symm
          · rw [if_neg hij] at hj
            have hx : x ∈ es.toList := List.mem_of_getElem? (by rw [Array.getElem?_toList]; exact hj)
            refine .inl ⟨hx, fun hk => hij ?_⟩
            have hxe := stamped_key_inj hs hx hmem (hk.trans h3.symm)
            subst hxe
            have h3' := hs.2.2
            have a1 : (es.toList.map (·.key))[i]? = some x.key := by simp [hei]
            have a2 : (es.toList.map (·.key))[j]? = some x.key := by simp [hj]
            exact nodup_idx h3' a1 a2
        · rintro (⟨hx, hk⟩ | rfl)
          · obtain ⟨j, hj⟩ := List.mem_iff_getElem?.1 hx
            refine ⟨j, ?_⟩
            rw [Array.getElem?_toList, Array.getElem?_modify]
            by_cases hij : i = j
            · subst hij
              rw [Array.getElem?_toList, hei] at hj
              cases hj
              exact absurd h3 hk
            · rw [if_neg hij]; simpa using hj
          · exact ⟨i, by rw [Array.getElem?_toList, Array.getElem?_modify, if_pos rfl, hei]; rfl⟩
      refine ⟨_, _, (heap_set hb).1, stamped_modify hs _ _ (fun _ _ => rfl) (fun e' _ he' => hkey e' he'), ?_, ?_⟩
      · intro x hx
        rcases (hmod x).1 hx with ⟨hx, _⟩ | rfl
        · exact hes x hx
        · exact ⟨k, rfl⟩
      · intro j u
        show (if j = k then some v else f j) = some u ↔ _
        by_cases hj : j = k
        · subst hj
          rw [if_pos rfl]
          constructor
          · intro hu
            injection hu with hu
            exact ⟨_, (hmod _).2 (.inr rfl), rfl, hu⟩
          · rintro ⟨x, hx, hk, hv⟩
            rcases (hmod x).1 hx with ⟨_, hne⟩ | rfl
            · exact absurd hk hne
            · rw [← hv]
        · rw [if_neg hj, hf j u]
          constructor
          · rintro ⟨x, hx, hk, hv⟩
            exact ⟨x, (hmod x).2 (.inl ⟨hx, fun h => hj (K.inj _ _ (hk.symm.trans h))⟩), hk, hv⟩
          · rintro ⟨x, hx, hk, hv⟩
            rcases (hmod x).1 hx with ⟨hx, _⟩ | rfl
            · exact ⟨x, hx, hk, hv⟩
            · exact absurd (K.inj _ _ hk).symm hj
end
section
variable {P : Program} {κ : Type} {enc : κ → Value} {kt et T : TypeId} {b : Nat} {f : κ → Option Value} {ops : Array Oper} {rest : List Oper} {a : Act} {w : World} {Q : Exit → Act → World → Prop} {d : Option Tmp} {ty : TypeId} {ps : String} {af : Array Edge} {m x y : Operand}
theorem at_look (K : MKey P kt enc) (hT : P.underlying T = some (.map kt et)) {z : Value} (hz : ∀ w, (zeroValue et).run P w = .ok z w) (h : MapIs w enc b f) (k : κ) (hm : a.eval m = .map (some b)) (hx : a.eval x = enc k)
    (hn : wpList P ops Q rest (a.put d ((f k).getD z)) w) : wpList P ops Q (⟨d, .lookup T m x false, ty, ps, af, none⟩ :: rest) a w := by
  refine Great.wpList_runTo rfl _ rfl ((f k).getD z) w ?_ hn
  have := h.look K hT hz k false
  unfold execOp
  simp only [hm, hx, Sem.run_bind, this, Result.andThen_ok, Sem.run_pure]; rfl
theorem at_look_ok (K : MKey P kt enc) (hT : P.underlying T = some (.map kt et)) {z : Value} (hz : ∀ w, (zeroValue et).run P w = .ok z w) (h : MapIs w enc b f) (k : κ) (hm : a.eval m = .map (some b)) (hx : a.eval x = enc k)
    (hn : wpList P ops Q rest (a.put d (.tuple #[(f k).getD z, .bool (f k).isSome])) w) : wpList P ops Q (⟨d, .lookup T m x true, ty, ps, af, none⟩ :: rest) a w := by
  refine Great.wpList_runTo rfl _ rfl (.tuple #[(f k).getD z, .bool (f k).isSome]) w ?_ hn
  have := h.look K hT hz k true
  unfold execOp
  simp only [hm, hx, Sem.run_bind, this, Result.andThen_ok, Sem.run_pure]; rfl
theorem at_mapPut [DecidableEq κ] (K : MKey P kt enc) (hT : P.underlying T = some (.map kt et)) (h : MapIs w enc b f) (k : κ) (v : Value) (hm : a.eval m = .map (some b)) (hx : a.eval x = enc k) (hy : a.eval y = v)
    (hn : ∀ w', MapIs w' enc b (fun j => if j = k then some v else f j) → Only (· = b) w w' → w'.heap.size = w.heap.size → wpList P ops Q rest (a.put d undef) w') : wpList P ops Q (⟨d, .mapUpdate T m x y, ty, ps, af, none⟩ :: rest) a w := by
  obtain ⟨w', hr, h1, h2, h3⟩ := h.put K hT k v
  refine wpList_plain rfl fun K' hK' => ?_
  unfold Oper.wp execOp
  simp only [hm, hx, hy, Sem.run_bind, hr, Result.andThen_ok, Sem.run_pure]
  exact hK' _ _ (hn w' h1 h2 h3)
theorem wp_mapPut [DecidableEq κ] {K' : Act → World → Prop} (K : MKey P kt enc) (hT : P.underlying T = some (.map kt et)) (h : MapIs w enc b f) (k : κ) (v : Value) (hm : a.eval m = .map (some b)) (hx : a.eval x = enc k) (hy : a.eval y = v)
    (hn : ∀ w', MapIs w' enc b (fun j => if j = k then some v else f j) → Only (· = b) w w' → w'.heap.size = w.heap.size → K' (a.put d undef) w') : Oper.wp P ⟨d, .mapUpdate T m x y, ty, ps, af, none⟩ a w K' Q := by
  obtain ⟨w', hr, h1, h2, h3⟩ := h.put K hT k v
  unfold Oper.wp execOp
  simp only [hm, hx, hy, Sem.run_bind, hr, Result.andThen_ok, Sem.run_pure]
  exact hn w' h1 h2 h3
end
end Go.Proofs.Ytimiehnknehagaa
