import Derived.Test.YtcakellhellddaaGreatDoorStrs
import Derived.Maps.AppendAt
set_option linter.unusedSimpArgs false
set_option linter.unusedVariables false
namespace Go.Proofs.YtcakellhellddaaGreatDoor
open Go.RowKit
/-! 'append(x, y...)' onto a row that the call owns, whatever y's length. -/
section
variable {P : Program}
theorem run_app_nil (w : World) (t ty e : TypeId) (ht : P.underlying t = some (.slice e)) (i : TypeInfo) (hi : P.info? e = some i) (a : Option Addr) (n c c' : Nat) (hn : n ≤ c) :
    (Builtin.append_ #[t, t] ty #[.slice a n c, .slice none 0 c']).run P w = .ok (.slice a n c) w := by
  cases a <;> simp [Builtin.append_, run_underlying ht, sizeOf, typeInfo, hi, Builtin.lenOf, hn, Builtin.firstCells, storeCells]
theorem run_app (w : World) (base : Nat) (t ty e : TypeId) (z : Value) (size bytes : Nat) (ht : P.underlying t = some (.slice e)) (hi : (P.info? e).map (fun i => (i.zero, i.size, i.bytes)) = some (some z, size, bytes)) (hzs : z.cells.size = size) (hsz : 0 < size)
    (v : Value) (n : Nat) (xs : List Value) (hown : w.ownsRow base e size v n xs)
    (ad : Option Addr) (m c : Nat) (news : List Value) (hl : news.length = m * size) (hnews : ∀ a, ad = some a → ∀ j u, news[j]? = some u → w.cell? (a.add j) = some u) (h1 : ∀ u ∈ news, u.oneCell' = true) (h0 : ad = none → m = 0)
    (h63 : n + m ≤ maxLen) (hbytes : (n + m) * bytes ≤ 140737488355328) (hbase : base ≤ w.heap.size) :
    ∃ v' w', (Builtin.append_ #[t, t] ty #[v, .slice ad m c]).run P w = .ok v' w' ∧ w'.ownsRow base e size v' (n + m) (xs ++ news) ∧ w.grownBy w' v.ownBlock ∧ (v'.ownBlock = v.ownBlock ∨ v'.ownBlock = some w.heap.size) := by
  obtain ⟨i, i1, i2, i3, i4⟩ := info_parts hi
  cases ad with
  | some a =>
    obtain ⟨v', w', h1, h2, h3, _, h5⟩ := run_append_own_at (P := P) w base t ty e i z size bytes ht i1 i2 i3 i4 hzs hsz v n xs hown a m c news hl (hnews a rfl) h1 h63 hbytes hbase
    exact ⟨v', w', h1, h2, h3, h5⟩
  | none =>
    have hm := h0 rfl
    subst hm
    have hn0 : news = [] := List.length_eq_zero_iff.1 (by rw [hl]; simp)
    subst hn0
    obtain ⟨a, cp, hv, hle⟩ : ∃ a cp, v = .slice a n cp ∧ n ≤ cp := by
      rcases hown.2 with ⟨rfl, rfl⟩ | ⟨g, cap, cur, rfl, _, _, h4, _⟩
      · exact ⟨_, _, rfl, Nat.le_refl _⟩
      · exact ⟨_, _, rfl, h4⟩
    refine ⟨v, w, ?_, by simpa using hown, ⟨rfl, rfl, rfl, Nat.le_refl _, fun _ _ _ => rfl⟩, .inl rfl⟩
    rw [hv]
    exact run_app_nil w t ty e ht i i1 a n cp c hle
end
section
variable {P : Program} {ops : Array Oper} {rest : List Oper} {a : Act} {w : World} {Q : Exit → Act → World → Prop} {d : Option Tmp} {ty : TypeId} {ps : String} {af : Array Edge} {x y : Operand}
/-- The operation. -/
theorem at_app {t e : TypeId} {z : Value} {size bytes : Nat} (ht : P.underlying t = some (.slice e)) (hi : (P.info? e).map (fun i => (i.zero, i.size, i.bytes)) = some (some z, size, bytes)) (hzs : z.cells.size = size) (hsz : 0 < size)
    (base : Nat) (v : Value) (n : Nat) (xs : List Value) (hx : a.eval x = v) (hown : w.ownsRow base e size v n xs)
    (ad : Option Addr) (m c : Nat) (news : List Value) (hy : a.eval y = .slice ad m c) (hl : news.length = m * size) (hnews : ∀ a, ad = some a → ∀ j u, news[j]? = some u → w.cell? (a.add j) = some u) (h1 : ∀ u ∈ news, u.oneCell' = true) (h0 : ad = none → m = 0)
    (h63 : n + m ≤ maxLen) (hbytes : (n + m) * bytes ≤ 140737488355328) (hbase : base ≤ w.heap.size)
    (h : ∀ v' w', w'.ownsRow base e size v' (n + m) (xs ++ news) → w.grownBy w' v.ownBlock → (v'.ownBlock = v.ownBlock ∨ v'.ownBlock = some w.heap.size) → wpList P ops Q rest (a.put d v') w') :
    wpList P ops Q (⟨d, .call { callee := .builtin .append, args := #[x, y], argTypes := #[t, t] }, ty, ps, af, none⟩ :: rest) a w := by
  obtain ⟨v', w', hr, h2, h3, h4⟩ := run_app w base t ty e z size bytes ht hi hzs hsz v n xs hown ad m c news hl hnews h1 h0 h63 hbytes hbase
  refine Great.wpList_runTo rfl d rfl v' w' ?_ (h v' w' h2 h3 h4)
  unfold execOp
  simp only [resolve, invoke, builtin, Sem.run_bind, Sem.run_pure, Result.andThen_ok, List.map_toArray, List.map_cons, List.map_nil, hx, hy, hr]
end
/-- Texts, as cells. -/
theorem strs_news {w : World} {l : List ByteArray} {a : Option Addr} (h : 0 < l.length → ∃ b o, a = some ⟨b, o, none⟩ ∧ b < w.heap.size ∧ ∀ (j : Nat) x, l[j]? = some x → w.cell? ⟨b, o + j, none⟩ = some (.string x)) :
    (∀ ad, a = some ad → ∀ j u, (l.map Value.string)[j]? = some u → w.cell? (ad.add j) = some u) ∧ (∀ u ∈ l.map Value.string, u.oneCell' = true) ∧ (a = none → l.length = 0) := by
  refine ⟨fun ad hd j u hj => ?_, fun u hu => ?_, fun hn => ?_⟩
  · rw [List.getElem?_map] at hj
    cases hx : l[j]? with
    | none => rw [hx] at hj; cases hj
    | some x =>
      rw [hx] at hj
      obtain rfl := Option.some.inj hj
      have hlt : 0 < l.length := by
        have := (List.getElem?_eq_some_iff.1 hx).1; omega
      obtain ⟨b, o, rfl, _, hc⟩ := h hlt
      obtain rfl := Option.some.inj hd
      rw [Addr.add_mid]
      exact hc j x hx
  · obtain ⟨x, _, rfl⟩ := List.mem_map.1 hu; rfl
  · rcases Nat.eq_zero_or_pos l.length with h0 | h0
    · exact h0
    · obtain ⟨b, o, rfl, _⟩ := h h0; cases hn
/-- Texts appended to texts that the call owns. -/
theorem at_appStrs {ops : Array Oper} {rest : List Oper} {a : Act} {w : World} {Q : Exit → Act → World → Prop} {d : Option Tmp} {ty : TypeId} {ps : String} {af : Array Edge} {x y : Operand}
    (base : Nat) (v : Value) (n : Nat) (xs l : List ByteArray) (ad : Option Addr) (m c : Nat) (hm : m = l.length) (hown : w.ownsRow base 9 1 v n (xs.map Value.string))
    (hsrc : 0 < l.length → ∃ b o, ad = some ⟨b, o, none⟩ ∧ b < w.heap.size ∧ ∀ (j : Nat) x, l[j]? = some x → w.cell? ⟨b, o + j, none⟩ = some (.string x))
    (hbytes : n + m ≤ 8796093022208) (hbase : base ≤ w.heap.size)
    (hx : a.eval x = v) (hy : a.eval y = .slice ad m c)
    (h : ∀ v' w', w'.ownsRow base 9 1 v' (n + m) ((xs ++ l).map Value.string) → w.grownBy w' v.ownBlock → (v'.ownBlock = v.ownBlock ∨ v'.ownBlock = some w.heap.size) → wpList Tryz.prog ops Q rest (a.put d v') w') :
    wpList Tryz.prog ops Q (⟨d, .call { callee := .builtin .append, args := #[x, y], argTypes := #[50, 50] }, ty, ps, af, none⟩ :: rest) a w := by
  subst hm
  obtain ⟨h1, h2, h3⟩ := strs_news hsrc
  refine at_app sl_str str_info rfl (by decide) base v n (xs.map Value.string) hx hown ad l.length c (l.map Value.string) hy (by simp) h1 h2 h3 (by simp [maxLen]; omega) (by omega) hbase (fun v' w' k1 k2 k3 => h v' w' ?_ k2 k3)
  rw [List.map_append]; exact k1
/-- Texts appended to an empty row: a new row. -/
theorem run_appStrs_fresh (w : World) (ty : TypeId) (b : Nat) (hb : Blk w b #[] 9) (l : List ByteArray) (hl : 0 < l.length) (hl2 : l.length ≤ 4000000000000) (ad : Option Addr) (c : Nat)
    (hsrc : 0 < l.length → ∃ b o, ad = some ⟨b, o, none⟩ ∧ b < w.heap.size ∧ ∀ (j : Nat) x, l[j]? = some x → w.cell? ⟨b, o + j, none⟩ = some (.string x)) :
    ∃ v' w', (Builtin.append_ #[50, 50] ty #[.slice (some ⟨b, 0, none⟩) 0 0, .slice ad l.length c]).run Tryz.prog w = .ok v' w' ∧ Below w.heap.size w w' ∧ w'.ownsRow w.heap.size 9 1 v' l.length (l.map Value.string) := by
  obtain ⟨i, i1, i2, i3, i4⟩ := info_parts str_info
  obtain ⟨h1, h2, h3⟩ := strs_news hsrc
  obtain ⟨bs, o, rfl, hbs, hc⟩ := hsrc hl
  have hown : w.ownsRow b 9 1 (.slice (some ⟨b, 0, none⟩) 0 0) 0 [] := ⟨rfl, .inr ⟨b, 0, #[], rfl, Nat.le_refl _, hb.out, by simp, by simp, rfl, rfl⟩⟩
  obtain ⟨v', w', r1, r2, _, _⟩ := run_app w b 50 ty 9 _ 1 16 sl_str str_info rfl (by decide) _ 0 [] hown (some ⟨bs, o, none⟩) l.length c (l.map Value.string) (by simp) h1 h2 h3 (by simp [maxLen]; omega) (by omega) (Nat.le_of_lt hb.lt)
  have hcap : Builtin.nextslicecap (0 + l.length) 0 * i.bytes ≤ 281474976710656 := by
    refine growslice_fits (by omega) ?_
    rw [i4]; omega
  have r3 := run_append_grow (P := Tryz.prog) w 50 ty 9 i _ sl_str i1 i2 ⟨b, 0, none⟩ 0 0 [] (by simp) (by simp) ⟨bs, o, none⟩ l.length c (l.map Value.string) (by rw [i3]; simp) (h1 _ rfl) (by omega) (by omega) hcap
  rw [Nat.zero_add] at r2 r3
  rw [r1] at r3
  injection r3 with e1 e2
  subst e1 e2
  refine ⟨_, _, r1, ((Below.refl _ w).drew).alloc (Nat.le_refl _) _, ?_⟩
  have h9 := r2
  rw [List.nil_append] at h9
  refine ⟨h9.1, ?_⟩
  rcases h9.2 with ⟨h, _⟩ | ⟨g, cap, cur, hv, hg, rest⟩
  · cases h
  · refine .inr ⟨g, cap, cur, hv, ?_, rest⟩
    injection hv with hv1
    injection hv1 with hv1
    injection hv1 with hv1
    omega
theorem step_appFresh {ops : Array Oper} {o : Oper} {a : Act} {w : World} {K : Act → World → Prop} {Q : Exit → Act → World → Prop} {E : Prop} {x y : Operand}
    (d : Option Tmp) (hd : o.dst = d) (hg : o.guard = none) (ho : o.op = .call { callee := .builtin .append, args := #[x, y], argTypes := #[50, 50] })
    (b : Nat) (hb : Blk w b #[] 9) (l : List ByteArray) (hl : 0 < l.length) (hl2 : l.length ≤ 4000000000000) (ad : Option Addr) (m c : Nat) (hm : m = l.length)
    (hsrc : 0 < l.length → ∃ b o, ad = some ⟨b, o, none⟩ ∧ b < w.heap.size ∧ ∀ (j : Nat) x, l[j]? = some x → w.cell? ⟨b, o + j, none⟩ = some (.string x))
    (hx : a.eval x = .slice (some ⟨b, 0, none⟩) 0 0) (hy : a.eval y = .slice ad m c)
    (h : ∀ v' w', Below w.heap.size w w' → w'.ownsRow w.heap.size 9 1 v' l.length (l.map Value.string) → K (a.put d v') w') :
    if Region.wanted o (yielded ops a.tmps) = true then Oper.wp Tryz.prog o a w K Q else E := by
  subst hm
  obtain ⟨v', w', hr, h1, h2⟩ := run_appStrs_fresh w o.type b hb l hl hl2 ad c hsrc
  refine step_run d hd hg (v := v') (w' := w') ?_ (h v' w' h1 h2)
  unfold execOp
  simp only [ho, resolve, invoke, builtin, Sem.run_bind, Sem.run_pure, Result.andThen_ok, List.map_toArray, List.map_cons, List.map_nil, hx, hy, hr]
/-- Texts appended to a row of texts, as a step. -/
theorem step_appStrs {ops : Array Oper} {o : Oper} {a : Act} {w : World} {K : Act → World → Prop} {Q : Exit → Act → World → Prop} {E : Prop} {x y : Operand}
    (d : Option Tmp) (hd : o.dst = d) (hg : o.guard = none) (ho : o.op = .call { callee := .builtin .append, args := #[x, y], argTypes := #[50, 50] })
    (base : Nat) (v : Value) (n : Nat) (xs l : List ByteArray) (ad : Option Addr) (m c : Nat) (hm : m = l.length) (hown : w.ownsRow base 9 1 v n (xs.map Value.string))
    (hsrc : 0 < l.length → ∃ b o, ad = some ⟨b, o, none⟩ ∧ b < w.heap.size ∧ ∀ (j : Nat) x, l[j]? = some x → w.cell? ⟨b, o + j, none⟩ = some (.string x))
    (hbytes : n + m ≤ 8796093022208) (hbase : base ≤ w.heap.size) (hx : a.eval x = v) (hy : a.eval y = .slice ad m c)
    (h : ∀ v' w', w'.ownsRow base 9 1 v' (n + m) ((xs ++ l).map Value.string) → w.grownBy w' v.ownBlock → (v'.ownBlock = v.ownBlock ∨ v'.ownBlock = some w.heap.size) → K (a.put d v') w') :
    if Region.wanted o (yielded ops a.tmps) = true then Oper.wp Tryz.prog o a w K Q else E := by
  subst hm
  obtain ⟨h1, h2, h3⟩ := strs_news hsrc
  obtain ⟨v', w', hr, k1, k2, k3⟩ := run_app w base 50 o.type 9 _ 1 16 sl_str str_info rfl (by decide) v n (xs.map Value.string) hown ad l.length c (l.map Value.string) (by simp) h1 h2 h3 (by simp [maxLen]; omega) (by omega) hbase
  refine step_run d hd hg (v := v') (w' := w') ?_ (h v' w' (by rw [List.map_append]; exact k1) k2 k3)
  unfold execOp
  simp only [ho, resolve, invoke, builtin, Sem.run_bind, Sem.run_pure, Result.andThen_ok, List.map_toArray, List.map_cons, List.map_nil, hx, hy, hr]
theorem owns_rebase {w : World} {B base : Nat} {e : TypeId} {size n : Nat} {v : Value} {xs : List Value} (h : w.ownsRow base e size v n xs) (hB : B ≤ base) : w.ownsRow B e size v n xs := by
  refine ⟨h.1, ?_⟩
  rcases h.2 with h0 | ⟨g, cap, cur, h1, h2, h3⟩
  · exact .inl h0
  · exact .inr ⟨g, cap, cur, h1, Nat.le_trans hB h2, h3⟩
/-- One text of a row stored anew. -/
theorem own_set {w : World} {base : Nat} {e : TypeId} {n : Nat} {v : Value} {xs : List ByteArray} (h : w.ownsRow base e 1 v n (xs.map Value.string)) (i : Nat) (hi : i < n) :
    ∃ g cap y, v = .slice (some ⟨g, 0, none⟩) n cap ∧ base ≤ g ∧ g < w.heap.size ∧ w.cell? ⟨g, i, none⟩ = some (.string y) ∧ w.frozen? ⟨g, i, none⟩ = false ∧
      ∀ x, (w.setCell ⟨g, i, none⟩ (.string x)).ownsRow base e 1 v n ((xs.set i x).map Value.string) := by
  rcases h.2 with ⟨_, h0⟩ | ⟨g, cap, cur, rfl, h2, h3, h4, h5, h6, h7⟩
  · omega
  · have hb : Blk w g cur e := h3
    have hlen : xs.length = n := by have := h.1; simpa using this
    have hx : cur[i]? = some (.string (xs[i]'(by omega))) := by
      have e1 : (cur.toList.take (n * 1))[i]? = some (Value.string (xs[i]'(by omega))) := by rw [h7, List.getElem?_map, List.getElem?_eq_getElem (by omega)]; rfl
      rw [List.getElem?_take_of_lt (by omega), Array.getElem?_toList] at e1
      exact e1
    refine ⟨g, cap, _, rfl, h2, lt_of_block h3, (hb.cell i).trans hx, hb.free i, fun x => ⟨by simp [hlen], .inr ⟨g, cap, cur.setIfInBounds i (.string x), rfl, h2, (hb.setCell i (.string x)).out, h4, h5, by simpa using h6, ?_⟩⟩⟩
    rw [Array.toList_setIfInBounds, List.take_set, h7, List.map_set]
end Go.Proofs.YtcakellhellddaaGreatDoor
