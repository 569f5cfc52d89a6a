import Derived.Test.YtimiehnknehagaaMpKey
import Derived.Test.YtimiehnknehagaaProg
import Derived.RangeFuncNested
import Derived.RangeFuncBox
import Derived.RangeFuncBound
import Derived.RangeFuncCalls
import Derived.RangeFuncLeaves
import Derived.Shelf.Abstract
import Derived.OwnWalkIn
import Derived.TacticsInMore
import Derived.LoopNIn
import Derived.LoopIn
import Derived.Sort.MapsRangeIn
import Derived.Maps.OwnIn
set_option linter.unusedSimpArgs false
set_option linter.unusedVariables false
namespace Go.Proofs.Ytimiehnknehagaa
open Go.RowKit Go.Shelf
attribute [local go_sem] Oper.semAt_some
/-! slices.Collect(maps.Keys(m)), the keys pairs of integers. -/
section
variable {F : Fence} {nF : Nat} {P : Program} {κ : Type} {enc : κ → Value} {kt et T : TypeId} {w : World} {b r : Nat} {f : κ → Option Value} {ks : List κ} {ops : Array Oper} {rest : List Oper} {o : Oper} {a : Act} {Q : Exit → Act → World → Prop}
theorem wpListIn_range_rng (hg : o.guard = none) (m : Operand) (t : TypeId) (hop : o.op = Op.range t m) (ht : P.underlying t = some (.map kt et)) (hm : a.eval m = .map (some b)) (h : MapIs w enc b f)
    (hK : ∀ w', Rng w' enc b w.heap.size f [] → Below w.heap.size w w' → w'.heap.size = w.heap.size + 1 → wpListIn F nF P ops Q rest (a.put o.dst (.pointer (some ⟨w.heap.size, 0, none⟩))) w') :
    wpListIn F nF P ops Q (o :: rest) a w := by
  refine wpListIn_plain hg fun K' hK' => ?_
  obtain ⟨w', hrun, r1, r2, r3⟩ := h.ranged ht
  unfold Oper.wpIn
  refine ⟨by simp [Oper.about, hop], ?_⟩
  rw [Oper.semAt_plain F _ _ (by rw [hop]; intro c hc'; cases hc')]
  simp [execOp, hop, hm, hrun, Result.andThen]
  exact hK' _ _ (hK w' r1 r2 r3)
theorem wpListIn_next_rng (hg : o.guard = none) (it : Operand) (hop : o.op = Op.next it false) (K : MKey P kt enc) (hit : a.eval it = .pointer (some ⟨r, 0, none⟩)) (h : Rng w enc b r f ks)
    (hDone : (∀ k, (f k).isSome = true → k ∈ ks) → wpListIn F nF P ops Q rest (a.put o.dst (.tuple #[.bool false])) w)
    (hMore : ∀ k v w', f k = some v → k ∉ ks → Rng w' enc b r f (ks ++ [k]) → rngLeft w' b r < rngLeft w b r → Only (· = r) w w' → w'.heap.size = w.heap.size → (Instr.entry (.pointer (some ⟨r, 0, none⟩))).run P w' = .ok (.tuple #[enc k, v]) w' →
      wpListIn F nF P ops Q rest (a.put o.dst (.tuple #[.bool true, enc k, v])) w') : wpListIn F nF P ops Q (o :: rest) a w := by
  refine wpListIn_plain hg fun K' hK' => ?_
  unfold Oper.wpIn
  refine ⟨by simp [Oper.about, hop], ?_⟩
  rw [Oper.semAt_plain F _ _ (by rw [hop]; intro c hc'; cases hc')]
  rcases h.next K o.type with ⟨hrun, hd⟩ | ⟨k, v, w', h1, h2, hrun, h3, h4, h5, h6, h7⟩
  · simp [execOp, hop, hit, hrun, Result.andThen]
    exact hK' _ _ (hDone hd)
  · simp [execOp, hop, hit, hrun, Result.andThen]
    exact hK' _ _ (hMore k v w' h1 h2 h3 h4 h5 h6 h7)
theorem wpList_range_rng (hg : o.guard = none) (m : Operand) (t : TypeId) (hop : o.op = Op.range t m) (ht : P.underlying t = some (.map kt et)) (hm : a.eval m = .map (some b)) (h : MapIs w enc b f)
    (hK : ∀ w', Rng w' enc b w.heap.size f [] → Below w.heap.size w w' → w'.heap.size = w.heap.size + 1 → wpList P ops Q rest (a.put o.dst (.pointer (some ⟨w.heap.size, 0, none⟩))) w') :
    wpList P ops Q (o :: rest) a w := by
  refine wpList_plain hg fun K' hK' => ?_
  obtain ⟨w', hrun, r1, r2, r3⟩ := h.ranged ht
  unfold Oper.wp
  simp [execOp, hop, hm, hrun, Result.andThen]
  exact hK' _ _ (hK w' r1 r2 r3)
theorem wpList_next_rng (hg : o.guard = none) (it : Operand) (hop : o.op = Op.next it false) (K : MKey P kt enc) (hit : a.eval it = .pointer (some ⟨r, 0, none⟩)) (h : Rng w enc b r f ks)
    (hDone : (∀ k, (f k).isSome = true → k ∈ ks) → wpList P ops Q rest (a.put o.dst (.tuple #[.bool false])) w)
    (hMore : ∀ k v w', f k = some v → k ∉ ks → Rng w' enc b r f (ks ++ [k]) → rngLeft w' b r < rngLeft w b r → Only (· = r) w w' → w'.heap.size = w.heap.size → (Instr.entry (.pointer (some ⟨r, 0, none⟩))).run P w' = .ok (.tuple #[enc k, v]) w' →
      wpList P ops Q rest (a.put o.dst (.tuple #[.bool true, enc k, v])) w') : wpList P ops Q (o :: rest) a w := by
  refine wpList_plain hg fun K' hK' => ?_
  unfold Oper.wp
  rcases h.next K o.type with ⟨hrun, hd⟩ | ⟨k, v, w', h1, h2, hrun, h3, h4, h5, h6, h7⟩
  · simp [execOp, hop, hit, hrun, Result.andThen]
    exact hK' _ _ (hDone hd)
  · simp [execOp, hop, hit, hrun, Result.andThen]
    exact hK' _ _ (hMore k v w' h1 h2 h3 h4 h5 h6 h7)
theorem Rng.walks {w' : World} (h : Rng w enc b r f ks) (hk : KeepsWalks w w') : Rng w' enc b r f ks ∧ rngLeft w' b r = rngLeft w b r := by
  have h0 := h
  obtain ⟨es, clock, seen, h1, h2, _⟩ := h
  exact h0.of_blocks ((hk.same b _ h1 rfl).trans h1.symm) ((hk.same r _ h2 rfl).trans h2.symm)
end
/-! At the dump. -/
theorem key_u : Try.prog.underlying 63 = some (.array 2 3) := by kernel_rfl
theorem mapkey_u : Try.prog.underlying 60 = some (.map 63 2) := by kernel_rfl
theorem KK : MKey Try.prog 63 encK := MKey.pair key_u Try.underlying3 (by kernel_rfl)
/-- The keys that a map holds, each once. -/
def KeysOf (f : Int × Int → Option Value) (ks : List (Int × Int)) : Prop := ks.Nodup ∧ ∀ k, k ∈ ks ↔ (f k).isSome = true
set_option maxRecDepth 100000 in
set_option maxHeartbeats 1000000 in
theorem keys1_in (n : Nat) (hn : 1 ≤ n) (lp Bm b N : Nat) (f : Int × Int → Option Value) (hN : ∀ ks : List (Int × Int), ks.Nodup → (∀ k ∈ ks, (f k).isSome = true) → ks.length ≤ N) (J Jx : List (Int × Int) → World → Prop)
    (hY : ∀ pre x W, J pre W → pre.length < N → YieldAt Fence.wide (n - 1) Try.prog lp #[encK x] W fun e W' =>
      (e = .returned (.bool true) ∧ J (pre ++ [x]) W' ∧ KeepsWalks W W') ∨ (e = .returned (.bool false) ∧ Jx (pre ++ [x]) W'))
    (W : World) (hJ : AbidesFrom W.heap.size J) (hm : W.cell? ⟨Bm, 0, none⟩ = some (.map (some b))) (hM : MapIs W encK b f) (h0 : J [] W) :
    CallsIn Fence.wide n Try.prog 41 #[.func (.yield lp) #[] #[], .pointer (some ⟨Bm, 0, none⟩)] W fun e W' => (∃ v, e = .returned v) ∧ ((∃ ks, KeysOf f ks ∧ J ks W') ∨ (∃ pre, True ∧ Jx pre W')) := by
  refine callsIn_of_wp Try.func41 rfl trivial ?_ rfl
  simp only [Try.ntmps41, List.size_toArray, List.length_cons, List.length_nil, Nat.reduceAdd, Nat.reduceSub, Array.replicate_succ, Array.replicate_zero, List.push_toArray, List.append_toArray, List.nil_append, List.cons_append]
  gi_wp2_with (first
    | (gi_at_range; refine wpListIn_range_rng rfl _ 60 rfl mapkey_u rfl hM ?_; intro w0 hr0 hb0 hs0)
    | gi_in)
  go_frame
  gi_loopw [3] (fun _ wr => ∃ ks : List (Int × Int), Rng wr encK b W.heap.size f ks ∧ J ks wr) (fun _ wr => rngLeft wr b W.heap.size)
  case atStart => exact ⟨[], hr0, hJ [] W w0 none h0 ⟨hb0.os, hb0.tape, hb0.output, hb0.size, fun k hk _ => hb0.block k hk⟩ (fun r e => by cases e)⟩
  case round =>
    obtain ⟨ks, hrg, hJs⟩ := hrel
    gi_wp2_with (first
      | (gi_at_next; refine wpListIn_next_rng rfl _ rfl KK rfl hrg ?_ ?_)
      | gi_in)
    · intro hall
      gi_wp2
      go_end0
      have hk9 : KeysOf f ks := by
        obtain ⟨es, clock, seen, _, _, _, _, _, h6, _, h8⟩ := hrg
        exact ⟨h6, fun k => ⟨h8 k, hall k.1 k.2⟩⟩
      exact ⟨⟨_, rfl⟩, .inl ⟨ks, hk9, hJs⟩⟩
    · intro k1 k2 v w2 hfk hnk hrg2 hlt ho2 hs2 hen
      have hJ2 : J ks w2 := hJ ks wr w2 (some W.heap.size) hJs ⟨ho2.os, ho2.tape, ho2.output, ho2.size, fun i hi hne => ho2.block i hi (fun e => hne (by rw [e]))⟩ (fun r e => by
        cases e
        obtain ⟨es, clock, seen, _, h2, _⟩ := hrg
        exact ⟨Nat.le_refl _, _, h2, rfl⟩)
      have hlen : ks.length < N := by
        have h9 : (ks ++ [(k1, k2)]).length ≤ N := by
          obtain ⟨es, clock, seen, _, _, _, _, _, h6, _, h8⟩ := hrg2
          exact hN _ h6 h8
        rw [List.length_append] at h9
        exact h9
      have hJ3 : J ks (w2.alloc (.cells #[.int .i64 k1, .int .i64 k2] 63)) := hJ ks w2 _ none hJ2 ⟨rfl, rfl, rfl, by simp, fun i hi _ => Below.heap_alloc w2 _ i hi⟩ (fun r e => by cases e)
      have hrgA := hrg2.walks (KeepsWalks.alloc w2 (.cells #[.int .i64 k1, .int .i64 k2] 63))
      obtain ⟨fn, tmps, assign, body, hy, hR⟩ := hY ks (k1, k2) _ hJ3 hlen
      clear hs2 hlen ho2
      unfold encK at hen hy
      gi_wp2
      refine hR.mono ?_
      rintro e W3 (⟨rfl, hJ4, hk3⟩ | ⟨rfl, hJx⟩)
      · have hr3 := hrgA.1.walks hk3
        gi_wp2
        go_roundw
        case rel => exact ⟨ks ++ [(k1, k2)], hr3.1, hJ4⟩
        case measure => rw [hr3.2, hrgA.2]; exact hlt
      · gi_wp2
        refine bodyPost_ret (results_none rfl _ _ _) rfl ?_
        exact ⟨⟨_, rfl⟩, .inr ⟨_, trivial, hJx⟩⟩
end Go.Proofs.Ytimiehnknehagaa
