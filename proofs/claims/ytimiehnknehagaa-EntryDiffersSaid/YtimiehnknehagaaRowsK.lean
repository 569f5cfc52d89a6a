import Derived.Test.YtimiehnknehagaaAppG
import Derived.Test.YtimiehnknehagaaMp
set_option linter.unusedSimpArgs false
set_option linter.unusedVariables false
namespace Go.Proofs.Ytimiehnknehagaa
open Go.RowKit
/-! Slices of elements of k cells each. -/
section
variable {α : Type} {enc : α → List Value} {k : Nat}
/-- The cells behind an address. -/
def SrcAt (enc : α → List Value) (k : Nat) (w : World) (a : Option Addr) (l : List α) : Prop :=
  0 < l.length → ∃ b o, a = some ⟨b, o, none⟩ ∧ b < w.heap.size ∧ ∀ (i : Nat) x, l[i]? = some x → ∀ (j : Nat) u, (enc x)[j]? = some u → w.cell? ⟨b, o + i * k + j, none⟩ = some u
def RowsAt (enc : α → List Value) (k : Nat) (w : World) (v : Value) (l : List α) : Prop :=
  ∃ a c, v = .slice a l.length c ∧ l.length ≤ c ∧ l.length ≤ 9223372036854775807 ∧ SrcAt enc k w a l
theorem SrcAt.below {w w' : World} {a : Option Addr} {l : List α} (h : SrcAt enc k w a l) (hb : Below w.heap.size w w') : SrcAt enc k w' a l := fun hl => by
  obtain ⟨b, o, h1, h2, h3⟩ := h hl
  exact ⟨b, o, h1, Nat.lt_of_lt_of_le h2 hb.size, fun i x hi j u hj => (hb.cell (p := ⟨b, o + i * k + j, none⟩) h2).trans (h3 i x hi j u hj)⟩
theorem SrcAt.only {S : Nat → Prop} {w w' : World} {a : Option Addr} {l : List α} (h : SrcAt enc k w a l) (ho : Only S w w') (hS : ∀ b o, a = some ⟨b, o, none⟩ → 0 < l.length → ¬ S b) : SrcAt enc k w' a l := fun hl => by
  obtain ⟨b, o, h1, h2, h3⟩ := h hl
  exact ⟨b, o, h1, Nat.lt_of_lt_of_le h2 ho.size, fun i x hi j u hj => (World.cell?_of_block (ho.block b h2 (hS b o h1 hl))).trans (h3 i x hi j u hj)⟩
theorem RowsAt.below {w w' : World} {v : Value} {l : List α} (h : RowsAt enc k w v l) (hb : Below w.heap.size w w') : RowsAt enc k w' v l := by
  obtain ⟨a, c, h1, h2, h3, h4⟩ := h
  exact ⟨a, c, h1, h2, h3, h4.below hb⟩
theorem RowsAt.nil (w : World) : RowsAt enc k w (.slice none 0 0) [] := ⟨_, _, rfl, by simp, by simp, fun h => by simp at h⟩
theorem flat_len (hk : ∀ x, (enc x).length = k) (l : List α) : (l.flatMap enc).length = l.length * k := by
  induction l with
  | nil => simp
  | cons x l ih => rw [List.flatMap_cons, List.length_append, ih, hk, List.length_cons, Nat.add_mul, Nat.one_mul, Nat.add_comm]
theorem flat_get (hk : ∀ x, (enc x).length = k) : ∀ (l : List α) (i : Nat) (x : α), l[i]? = some x → ∀ (j : Nat) u, (enc x)[j]? = some u → (l.flatMap enc)[i * k + j]? = some u
  | [], i, x, h => by simp at h
  | y :: l, 0, x, h => fun j u hj => by
    obtain rfl : y = x := by simpa using h
    have := (List.getElem?_eq_some_iff.1 hj).1
    rw [List.flatMap_cons, Nat.zero_mul, Nat.zero_add, List.getElem?_append_left this]; exact hj
  | y :: l, i + 1, x, h => fun j u hj => by
    rw [List.flatMap_cons, List.getElem?_append_right (by rw [hk, Nat.add_mul]; omega), hk, show (i + 1) * k + j - k = i * k + j by rw [Nat.add_mul]; omega]
    exact flat_get hk l i x (by simpa using h) j u hj
theorem flat_at (hk : ∀ x, (enc x).length = k) : ∀ (l : List α) (n : Nat) (u : Value), (l.flatMap enc)[n]? = some u → ∃ (i : Nat) (x : α) (j : Nat), l[i]? = some x ∧ (enc x)[j]? = some u ∧ n = i * k + j
  | [], n, u, h => by simp at h
  | y :: l, n, u, h => by
    rw [List.flatMap_cons] at h
    by_cases hn : n < (enc y).length
    · rw [List.getElem?_append_left hn] at h
      exact ⟨0, y, n, rfl, h, by omega⟩
    · rw [List.getElem?_append_right (by omega)] at h
      obtain ⟨i, x, j, h1, h2, h3⟩ := flat_at hk l _ u h
      rw [hk] at h3 hn
      exact ⟨i + 1, x, j, by simpa using h1, h2, by rw [Nat.add_mul]; omega⟩
/-- A row that a call owns. -/
theorem RowsAt.own (hk : ∀ x, (enc x).length = k) {w : World} {base n : Nat} {t : TypeId} {v : Value} {l : List α} (h : w.ownsRow base t k v n (l.flatMap enc)) (hn : n = l.length) (hm : n ≤ 9223372036854775807) : RowsAt enc k w v l := by
  subst hn
  rcases h.2 with ⟨rfl, h0⟩ | ⟨g, cap, cur, rfl, h2, h3, h4, h5, h6, h7⟩
  · exact ⟨none, 0, by rw [h0], by omega, hm, fun h => by omega⟩
  · refine ⟨_, _, rfl, h4, hm, fun _ => ⟨g, 0, rfl, lt_of_block h3, fun i x hi j u hj => ?_⟩⟩
    have e := flat_get hk l i x hi j u hj
    have hlt : i * k + j < l.length * k := by
      have := (List.getElem?_eq_some_iff.1 e).1
      rwa [flat_len hk] at this
    rw [Nat.zero_add]
    have e2 : (cur.toList.take (l.length * k))[i * k + j]? = some u := by rw [h7]; exact e
    rw [List.getElem?_take_of_lt hlt, Array.getElem?_toList] at e2
    simp only [World.cell?, h3]
    exact e2
/-- One element that was laid by itself. -/
theorem SrcAt.one {w : World} {b : Nat} {t : TypeId} {x : α} {cs : Array Value} (h : Blk w b cs t) (hc : cs.toList = enc x) : SrcAt enc k w (some ⟨b, 0, none⟩) [x] := fun _ =>
  ⟨b, 0, rfl, h.lt, fun i y hi j u hj => by
    cases i with
    | zero =>
      obtain rfl := Option.some.inj hi
      rw [Nat.zero_mul, Nat.zero_add, h.cell, ← Array.getElem?_toList, hc]
      exact hj
    | succ i => simp at hi⟩
theorem SrcAt.news (hk : ∀ x, (enc x).length = k) {w : World} {a : Option Addr} {l : List α} (h : SrcAt enc k w a l) : (∀ ad, a = some ad → ∀ j u, (l.flatMap enc)[j]? = some u → w.cell? (ad.add j) = some u) ∧ (a = none → l.length = 0) := by
  refine ⟨fun ad hd n u hn => ?_, fun hn => ?_⟩
  · obtain ⟨i, x, j, h1, h2, rfl⟩ := flat_at hk l n u hn
    have hlt : 0 < l.length := by
      have := (List.getElem?_eq_some_iff.1 h1).1; omega
    obtain ⟨b, o, rfl, _, hc⟩ := h hlt
    obtain rfl := Option.some.inj hd
    rw [Addr.add_mid, ← Nat.add_assoc]
    exact hc i x h1 j u h2
  · rcases Nat.eq_zero_or_pos l.length with h0 | h0
    · exact h0
    · obtain ⟨b, o, rfl, _⟩ := h h0; cases hn
end
section
variable {P : Program} {α : Type} {enc : α → List Value} {k : Nat} {ops : Array Oper} {rest : List Oper} {a : Act} {w : World} {Q : Exit → Act → World → Prop} {d : Option Tmp} {ty : TypeId} {ps : String} {af : Array Edge} {x y : Operand}
/-- Elements appended to elements that the call owns. -/
theorem at_appRows {t e : TypeId} {z : Value} {bytes : Nat} (ht : P.underlying t = some (.slice e)) (hi : (P.info? e).map (fun i => (i.zero, i.size, i.bytes)) = some (some z, k, bytes)) (hzs : z.cells.size = k) (hk0 : 0 < k)
    (hk : ∀ x, (enc x).length = k) (h1 : ∀ x, ∀ u ∈ enc x, u.oneCell' = true) (hby : bytes ≤ 1000)
    (base : Nat) (v : Value) (n : Nat) (xs l : List α) (ad : Option Addr) (m c : Nat) (hm : m = l.length) (hown : w.ownsRow base e k v n (xs.flatMap enc)) (hsrc : SrcAt enc k w ad l)
    (hbytes : n + m ≤ 140737488355) (hbase : base ≤ w.heap.size) (hx : a.eval x = v) (hy : a.eval y = .slice ad m c)
    (h : ∀ v' w', w'.ownsRow base e k v' (n + m) ((xs ++ l).flatMap enc) → w.grownBy w' v.ownBlock → (v'.ownBlock = v.ownBlock ∨ v'.ownBlock = some w.heap.size) → wpList P ops Q rest (a.put d v') w') :
    wpList P ops Q (⟨d, .call { callee := .builtin .append, args := #[x, y], argTypes := #[t, t] }, ty, ps, af, none⟩ :: rest) a w := by
  subst hm
  obtain ⟨q1, q2⟩ := hsrc.news hk
  have hb9 : (n + l.length) * bytes ≤ 140737488355328 := Nat.le_trans (Nat.mul_le_mul hbytes hby) (by decide)
  refine at_app ht hi hzs hk0 base v n (xs.flatMap enc) hx hown ad l.length c (l.flatMap enc) hy (flat_len hk l) q1 (fun u hu => ?_) q2 (by simp [maxLen]; omega) hb9 hbase (fun v' w' k1 k2 k3 => h v' w' ?_ k2 k3)
  · obtain ⟨z, _, hz⟩ := List.mem_flatMap.1 hu
    exact h1 z u hz
  · rw [List.flatMap_append]; exact k1
theorem step_appRows {o : Oper} {K : Act → World → Prop} {E : Prop} {t e : TypeId} {z : Value} {bytes : Nat} (ht : P.underlying t = some (.slice e)) (hi : (P.info? e).map (fun i => (i.zero, i.size, i.bytes)) = some (some z, k, bytes)) (hzs : z.cells.size = k) (hk0 : 0 < k)
    (hk : ∀ x, (enc x).length = k) (h1 : ∀ x, ∀ u ∈ enc x, u.oneCell' = true) (hby : bytes ≤ 1000)
    (hd : o.dst = d) (hg : Region.wanted o (yielded ops a.tmps) = true) (ho : o.op = .call { callee := .builtin .append, args := #[x, y], argTypes := #[t, t] })
    (base : Nat) (v : Value) (n : Nat) (xs l : List α) (ad : Option Addr) (m c : Nat) (hm : m = l.length) (hown : w.ownsRow base e k v n (xs.flatMap enc)) (hsrc : SrcAt enc k w ad l)
    (hbytes : n + m ≤ 140737488355) (hbase : base ≤ w.heap.size) (hx : a.eval x = v) (hy : a.eval y = .slice ad m c)
    (h : ∀ v' w', w'.ownsRow base e k v' (n + m) ((xs ++ l).flatMap enc) → w.grownBy w' v.ownBlock → (v'.ownBlock = v.ownBlock ∨ v'.ownBlock = some w.heap.size) → K (a.put d v') w') :
    if Region.wanted o (yielded ops a.tmps) = true then Oper.wp P o a w K Q else E := by
  subst hm
  obtain ⟨q1, q2⟩ := hsrc.news hk
  have hb9 : (n + l.length) * bytes ≤ 140737488355328 := Nat.le_trans (Nat.mul_le_mul hbytes hby) (by decide)
  obtain ⟨v', w', hr, k1, k2, k3⟩ := run_app (P := P) w base t o.type e z k bytes ht hi hzs hk0 v n (xs.flatMap enc) hown ad l.length c (l.flatMap enc) (flat_len hk l) q1 (fun u hu => by
    obtain ⟨z, _, hz⟩ := List.mem_flatMap.1 hu
    exact h1 z u hz) q2 (by simp [maxLen]; omega) hb9 hbase
  refine step_run_w d hd hg (v := v') (w' := w') ?_ (h v' w' (by rw [List.flatMap_append]; exact k1) k2 k3)
  unfold execOp
  simp only [ho, resolve, invoke, builtin, Sem.run_bind, Sem.run_pure, Result.andThen_ok, List.map_toArray, List.map_cons, List.map_nil, hx, hy, hr]
end
end Go.Proofs.Ytimiehnknehagaa
