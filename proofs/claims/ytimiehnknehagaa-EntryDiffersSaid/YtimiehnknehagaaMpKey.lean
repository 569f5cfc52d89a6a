import Derived.Test.YtimiehnknehagaaMp
import Derived.Maps.RangeRun
import Derived.ChangeKeysEq
set_option linter.unusedSimpArgs false
set_option linter.unusedVariables false
namespace Go.Proofs.Ytimiehnknehagaa
open Go.RowKit Go.MapKept
/-! Maps whose keys are pairs of integers. -/
def encK (k : Int × Int) : Value := .agg #[.int .i64 k.1, .int .i64 k.2]
section
variable {P : Program} {kt e : TypeId}
theorem run_eq_pair (hu : P.underlying kt = some (.array 2 e)) (he : P.underlying e = some (.int .i64)) (hc : P.cellsOf e = 1) (d : Nat) (a b : Int × Int) (w : World) :
    (Op.equalIn (d + 2) kt (encK a) (encK b)).run P w = .ok (a == b) w := by
  obtain ⟨i, hi⟩ := info_of_underlying he
  have hp : P.plainKey e = true := by simp [Program.plainKey, he]
  unfold encK
  rw [run_equalIn_array w (d + 1) _ _ hu hi, hc]
  have p1 : (part e #[Value.int .i64 a.1, Value.int .i64 a.2] (0 * 1)).run P w = .ok (.int .i64 a.1) w := run_part_plain w hp rfl
  have p2 : (part e #[Value.int .i64 b.1, Value.int .i64 b.2] (0 * 1)).run P w = .ok (.int .i64 b.1) w := run_part_plain w hp rfl
  have p3 : (part e #[Value.int .i64 a.1, Value.int .i64 a.2] (1 * 1)).run P w = .ok (.int .i64 a.2) w := run_part_plain w hp rfl
  have p4 : (part e #[Value.int .i64 b.1, Value.int .i64 b.2] (1 * 1)).run P w = .ok (.int .i64 b.2) w := run_part_plain w hp rfl
  have q1 : (Op.equalIn (d + 1) e (.int .i64 a.1) (.int .i64 b.1)).run P w = .ok (a.1 == b.1) w := run_equalIn_int w d e .i64 .i64 a.1 b.1 he
  have q2 : (Op.equalIn (d + 1) e (.int .i64 a.2) (.int .i64 b.2)).run P w = .ok (a.2 == b.2) w := run_equalIn_int w d e .i64 .i64 a.2 b.2 he
  rw [show List.range 2 = [0, 1] from rfl]
  simp only [Op.eqItems, Sem.run_bind, p1, p2, q1, Result.andThen_ok]
  by_cases h1 : a.1 = b.1
  · rw [show (a.1 == b.1) = true by simp [h1]]
    simp only [Bool.not_true, Bool.false_eq_true, if_false, Sem.run_bind, p3, p4, q2, Result.andThen_ok]
    by_cases h2 : a.2 = b.2
    · rw [show (a.2 == b.2) = true by simp [h2], show (a == b) = true by simp; exact Prod.ext h1 h2]; rfl
    · rw [show (a.2 == b.2) = false by simp [h2], show (a == b) = false by simp; intro h; exact h2 (by rw [h])]; rfl
  · rw [show (a.1 == b.1) = false by simp [h1], show (a == b) = false by simp; intro h; exact h1 (by rw [h])]; rfl
theorem encK_inj (a b : Int × Int) (h : encK a = encK b) : a = b := by
  unfold encK at h
  injection h with h
  simp at h
  exact Prod.ext h.1 h.2
theorem find_pair (hu : P.underlying kt = some (.array 2 e)) (he : P.underlying e = some (.int .i64)) (hc : P.cellsOf e = 1) (a : Int × Int) (w : World) : ∀ (es : List MapEntry) (i : Nat), (∀ x ∈ es, ∃ j, x.key = encK j) →
    ((Instr.findAsking kt (encK a) es i).run P w = .ok none w ∧ ∀ x ∈ es, x.key ≠ encK a) ∨
    ∃ j x, (Instr.findAsking kt (encK a) es i).run P w = .ok (some (i + j, x.val)) w ∧ es[j]? = some x ∧ x.key = encK a
  | [], i, _ => .inl ⟨by simp [Instr.findAsking], by simp⟩
  | x :: es, i, hall => by
    obtain ⟨k, hk⟩ := hall x (by simp)
    have hr : (Op.equal kt (encK a) x.key).run P w = .ok (a == k) w := by rw [hk]; exact run_eq_pair hu he hc 9998 a k w
    by_cases hak : a = k
    · subst hak
      exact .inr ⟨0, x, by simp [Instr.findAsking, hr], rfl, hk⟩
    · have hb : (a == k) = false := by simp [hak]
      rw [hb] at hr
      rcases find_pair hu he hc a w es (i + 1) (fun y hy => hall y (by simp [hy])) with ⟨h1, h2⟩ | ⟨j, x', h1, h2, h3⟩
      · refine .inl ⟨by simp [Instr.findAsking, hr, h1], fun y hy => ?_⟩
        rcases List.mem_cons.1 hy with rfl | hy
        · rw [hk]; intro h; exact hak (encK_inj _ _ h).symm
        · exact h2 y hy
      · exact .inr ⟨j + 1, x', by simp [Instr.findAsking, hr, h1, Nat.add_assoc, Nat.add_comm 1 j], by simpa using h2, h3⟩
theorem findNow_pair {n : Nat} (a : Int × Int) : ∀ (es : List MapEntry) (i : Nat), es ≠ [] → Instr.findNow (.array n e) (encK a) es i = none
  | [], _, h => absurd rfl h
  | x :: es, i, _ => by simp [Instr.findNow, Instr.sameNow]
theorem MKey.pair (hu : P.underlying kt = some (.array 2 e)) (he : P.underlying e = some (.int .i64)) (hc : P.cellsOf e = 1) : MKey P kt encK where
  inj := encK_inj
  chk := fun em a w => by
    obtain ⟨i, hi⟩ := info_of_underlying he
    have hp : P.plainKey e = true := by simp [Program.plainKey, he]
    have p1 : (part e #[Value.int .i64 a.1, Value.int .i64 a.2] 0).run P w = .ok (.int .i64 a.1) w := run_part_plain w hp rfl
    have p3 : (part e #[Value.int .i64 a.1, Value.int .i64 a.2] 1).run P w = .ok (.int .i64 a.2) w := run_part_plain w hp rfl
    have hint : ∀ n, (Instr.checkKey em 9999 e (.int .i64 n)).run P w = .ok () w := fun n => MapKept.run_checkKey (n := 9998) he (k := .int .i64 n) rfl em
    unfold encK Instr.checkKey
    simp only [Sem.run_bind, run_underlying hu, Result.andThen_ok]
    simp only [Std.Legacy.Range.forIn_eq_forIn_range', Std.Legacy.Range.size, Nat.sub_zero, Nat.add_one_sub_one, Nat.div_one]
    rw [show List.range' 0 2 = [0, 1] from rfl]
    simp only [List.forIn_cons, List.forIn_nil, Sem.run_bind, Sem.run_pure, run_sizeOf w hi, hc, Result.andThen_ok, Nat.mul_one, p1, p3, hint]
  fnd := fun a es w hes => by
    rcases List.eq_nil_or_concat es with rfl | ⟨_, _, hne⟩
    · exact .inl ⟨by simp [Instr.findKey, run_underlying hu, Instr.findNow], by simp⟩
    · have hf : (Instr.findKey kt (encK a) es).run P w = (Instr.findAsking kt (encK a) es 0).run P w := by
        simp [Instr.findKey, run_underlying hu, findNow_pair a es 0 (by rw [hne]; simp)]
      rw [hf]
      rcases find_pair hu he hc a w es 0 hes with h | ⟨j, x, h1, h2, h3⟩
      · exact .inl h
      · exact .inr ⟨j, x, by simpa using h1, h2, h3⟩
  stay := fun a w => by
    have : Instr.sameBits 10000 (encK a) (encK a) = true := by simp [encK, Instr.sameBits]
    simp [Instr.keyThatStays, this]
end
/-! A range over a map that nobody turns in its rounds. -/
/-- The iterator at block r over the map at b, the keys ks behind it. -/
def Rng (w : World) {κ : Type} (enc : κ → Value) (b r : Nat) (f : κ → Option Value) (ks : List κ) : Prop :=
  ∃ es clock seen, w.heap[b]? = some (.map es clock) ∧ w.heap[r]? = some (.mapIter (some b) clock seen clock) ∧ Stamped es clock ∧ (∀ e ∈ es.toList, ∃ j, e.key = enc j) ∧
    (∀ k v, f k = some v ↔ ∃ e ∈ es.toList, e.key = enc k ∧ e.val = v) ∧ ks.Nodup ∧ (∀ e ∈ es.toList, seen.contains e.born = true ↔ ∃ k ∈ ks, e.key = enc k) ∧ (∀ k ∈ ks, (f k).isSome = true)
/-- How many entries are left. -/
def rngLeft (w : World) (b r : Nat) : Nat :=
  match w.heap[b]?, w.heap[r]? with
  | some (.map es _), some (.mapIter _ _ seen _) => (leftOf es seen).size
  | _, _ => 0
section
variable {P : Program} {κ : Type} {enc : κ → Value} {kt et T : TypeId} {w w' : World} {b r : Nat} {f : κ → Option Value} {ks : List κ}
theorem Rng.mapIs (h : Rng w enc b r f ks) : MapIs w enc b f := by
  obtain ⟨es, clock, seen, h1, _, h3, h4, h5, _⟩ := h
  exact ⟨es, clock, h1, h3, h4, h5⟩
theorem Rng.lt (h : Rng w enc b r f ks) : b < w.heap.size ∧ r < w.heap.size ∧ b ≠ r := by
  obtain ⟨es, clock, seen, h1, h2, _⟩ := h
  refine ⟨(Array.getElem?_eq_some_iff.1 h1).1, (Array.getElem?_eq_some_iff.1 h2).1, fun e => ?_⟩
  rw [e, h2] at h1; cases h1
theorem Rng.of_blocks (h : Rng w enc b r f ks) (hb : w'.heap[b]? = w.heap[b]?) (hr : w'.heap[r]? = w.heap[r]?) : Rng w' enc b r f ks ∧ rngLeft w' b r = rngLeft w b r := by
  obtain ⟨es, clock, seen, h1, h2, h3⟩ := h
  exact ⟨⟨es, clock, seen, hb.trans h1, hr.trans h2, h3⟩, by unfold rngLeft; rw [hb, hr]⟩
theorem Rng.only {S : Nat → Prop} (h : Rng w enc b r f ks) (ho : Only S w w') (h1 : ¬ S b) (h2 : ¬ S r) : Rng w' enc b r f ks ∧ rngLeft w' b r = rngLeft w b r :=
  h.of_blocks (ho.block b h.lt.1 h1) (ho.block r h.lt.2.1 h2)
/-- 'range m'. -/
theorem MapIs.ranged (hT : P.underlying T = some (.map kt et)) (h : MapIs w enc b f) :
    ∃ w', (Instr.range T (.map (some b))).run P w = .ok (.pointer (some ⟨w.heap.size, 0, none⟩)) w' ∧ Rng w' enc b w.heap.size f [] ∧ Below w.heap.size w w' ∧ w'.heap.size = w.heap.size + 1 := by
  have hlt := h.lt
  obtain ⟨es, clock, h1, h2, h3, h4⟩ := h
  refine ⟨_, run_range_map w T kt et b es clock hT h1, ⟨es, clock, #[], (heap_alloc_old w _ hlt).trans h1, heap_alloc_new w _, h2, h3, h4, by simp, by simp, by simp⟩, (Below.refl _ w).alloc (Nat.le_refl _) _, by simp⟩
/-- 'next': either nothing is left, or an entry comes that has not come yet. -/
theorem Rng.next (K : MKey P kt enc) (h : Rng w enc b r f ks) (ty : TypeId) :
    ((Instr.next (.pointer (some ⟨r, 0, none⟩)) false ty).run P w = .ok (.tuple #[.bool false]) w ∧ ∀ k, (f k).isSome = true → k ∈ ks) ∨
    ∃ k v w', f k = some v ∧ k ∉ ks ∧ (Instr.next (.pointer (some ⟨r, 0, none⟩)) false ty).run P w = .ok (.tuple #[.bool true, enc k, v]) w' ∧ Rng w' enc b r f (ks ++ [k]) ∧ rngLeft w' b r < rngLeft w b r ∧ Only (· = r) w w' ∧ w'.heap.size = w.heap.size ∧
      (Instr.entry (.pointer (some ⟨r, 0, none⟩))).run P w' = .ok (.tuple #[enc k, v]) w' := by
  have hl := h.lt
  obtain ⟨es, clock, seen, h1, h2, h3, h4, h5, h6, h7, h8⟩ := h
  rcases run_next_at (P := P) w ty r b clock clock seen es clock h2 h1 h3.1 (Nat.le_refl _) with ⟨hz, hr⟩ | ⟨x, hx, w1, hw1, hr⟩
  · refine .inl ⟨hr, fun k hk => ?_⟩
    obtain ⟨v, hv⟩ := Option.isSome_iff_exists.1 hk
    obtain ⟨e, he, hek, _⟩ := (h5 k v).1 hv
    have hs : seen.contains e.born = true := by
      cases hc : seen.contains e.born with
      | true => rfl
      | false =>
        have : e ∈ (leftOf es seen).toList := by unfold leftOf; simp at he ⊢; exact ⟨he, by simpa using hc⟩
        rw [Array.eq_empty_of_size_eq_zero hz] at this
        simp at this
    obtain ⟨k', hk', he'⟩ := (h7 e he).1 hs
    rw [K.inj _ _ (hek.symm.trans he')]; exact hk'
  · have hxe : x ∈ es.toList ∧ seen.contains x.born = false := by
      unfold leftOf at hx
      simp at hx ⊢
      exact hx
    obtain ⟨k, hk⟩ := h4 x hxe.1
    have hfk : f k = some x.val := (h5 k x.val).2 ⟨x, hxe.1, hk, rfl⟩
    have hnk : k ∉ ks := fun hm => by
      have := (h7 x hxe.1).2 ⟨k, hm, hk⟩
      rw [hxe.2] at this; cases this
    have hw1h : w1.heap = w.heap := by rcases hw1 with rfl | rfl <;> rfl
    have hset : (Go.ChangeMaps.setBlock w1 r (.mapIter (some b) clock (seen.push x.born) clock)).heap = w.heap.setIfInBounds r (.mapIter (some b) clock (seen.push x.born) clock) := by
      show w1.heap.setIfInBounds _ _ = _
      rw [hw1h]
    have g1 : (Go.ChangeMaps.setBlock w1 r (.mapIter (some b) clock (seen.push x.born) clock)).heap[b]? = some (.map es clock) := by
      rw [hset, Array.getElem?_setIfInBounds_ne (Ne.symm hl.2.2)]; exact h1
    have g2 : (Go.ChangeMaps.setBlock w1 r (.mapIter (some b) clock (seen.push x.born) clock)).heap[r]? = some (.mapIter (some b) clock (seen.push x.born) clock) := by
      rw [hset, Array.getElem?_setIfInBounds_self_of_lt hl.2.1]
    have hborn : ∀ e ∈ es.toList, e.born = x.born → e = x := fun e he hb => by
      obtain ⟨i, hi⟩ := List.mem_iff_getElem?.1 he
      obtain ⟨j, hj⟩ := List.mem_iff_getElem?.1 hxe.1
      have a1 : (es.toList.map (·.born))[i]? = some e.born := by rw [List.getElem?_map, hi]; rfl
      have a2 : (es.toList.map (·.born))[j]? = some e.born := by rw [List.getElem?_map, hj, hb]; rfl
      have := nodup_idx h3.2.1 a1 a2
      subst this
      rw [hi] at hj
      exact Option.some.inj hj
    rw [hk] at hr
    refine .inr ⟨k, x.val, _, hfk, hnk, hr, ⟨es, clock, seen.push x.born, g1, g2, h3, h4, h5, ?_, ?_, ?_⟩, ?_, ?_, by rw [hset]; simp, ?_⟩
    · rw [List.nodup_append]
      exact ⟨h6, by simp, fun a ha b' hb' => by simp at hb'; subst hb'; intro e; subst e; exact hnk ha⟩
    · intro e he
      constructor
      · intro hc
        simp only [Array.contains_push, Bool.or_eq_true, beq_iff_eq] at hc
        by_cases hb : e.born = x.born
        · exact ⟨k, by simp, by rw [hborn e he hb]; exact hk⟩
        · have hc : seen.contains e.born = true := by
            rcases hc with hc | hc
            · exact hc
            · exact absurd hc hb
          obtain ⟨k', hk', he'⟩ := (h7 e he).1 hc
          exact ⟨k', by simp [hk'], he'⟩
      · rintro ⟨k', hk', he'⟩
        simp only [Array.contains_push, Bool.or_eq_true, beq_iff_eq]
        rcases List.mem_append.1 hk' with hm | hm
        · exact .inl ((h7 e he).2 ⟨k', hm, he'⟩)
        · have hm := List.mem_singleton.1 hm
          subst hm
          have := stamped_key_inj h3 he hxe.1 (he'.trans hk.symm)
          exact .inr (by rw [this])
    · intro k' hk'
      rcases List.mem_append.1 hk' with hm | hm
      · exact h8 k' hm
      · rw [List.mem_singleton.1 hm, hfk]; rfl
    · unfold rngLeft
      rw [g1, g2, h1, h2]
      dsimp only
      unfold leftOf
      have hsub : (es.filter fun e => !(seen.push x.born).contains e.born) = (es.filter fun e => !seen.contains e.born).filter fun e => e.born != x.born := by
        rw [Array.filter_filter]
        apply Array.filter_congr rfl _ rfl rfl
        funext e
        simp only [Array.contains_push, Bool.not_or, bne]
        rw [Bool.and_comm]
      rw [hsub]
      refine Array.size_filter_lt_size_iff_exists.2 ⟨x, ?_, by simp⟩
      unfold leftOf at hx
      simpa using hx
    · refine ⟨?_, ?_, ?_, by rw [hset]; simp, fun i _ hi => ?_⟩
      · rcases hw1 with rfl | rfl <;> rfl
      · rcases hw1 with rfl | rfl <;> rfl
      · rcases hw1 with rfl | rfl <;> rfl
      · rw [hset, Array.getElem?_setIfInBounds_ne (Ne.symm hi)]
    · rw [← hk]
      exact run_entry_at _ r b clock seen es clock x g2 g1 hxe.1 h3.2.1
end
end Go.Proofs.Ytimiehnknehagaa
