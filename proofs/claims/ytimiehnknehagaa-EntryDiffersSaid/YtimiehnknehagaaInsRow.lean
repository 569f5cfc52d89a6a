import Derived.Test.YtimiehnknehagaaRowsK
import Derived.Test.YtimiehnknehagaaRegInv
set_option linter.unusedSimpArgs false
set_option linter.unusedVariables false
namespace Go.Proofs.Ytimiehnknehagaa
open Go.RowKit
/-! Elements appended to an empty row: a new row, the empty one as it was. Parts of a slice. -/
section
variable {P : Program} {α : Type} {enc : α → List Value} {k : Nat}
theorem run_app_none (w : World) (t ty e : TypeId) (ht : P.underlying t = some (.slice e)) (i : TypeInfo) (hi : P.info? e = some i) (a : Option Addr) (ad : Option Addr) (n c c' : Nat) (hn : n ≤ c) :
    (Builtin.append_ #[t, t] ty #[.slice a n c, .slice ad 0 c']).run P w = .ok (.slice a n c) w := by
  cases a <;> cases ad <;> simp [Builtin.append_, run_underlying ht, sizeOf, typeInfo, hi, Builtin.lenOf, hn, Builtin.firstCells, storeCells, loadCells, loadCellsFrom]
theorem run_appRows_fresh {t e : TypeId} {z : Value} {bytes : Nat} (ht : P.underlying t = some (.slice e)) (hi : (P.info? e).map (fun i => (i.zero, i.size, i.bytes)) = some (some z, k, bytes)) (hzs : z.cells.size = k) (hk0 : 0 < k)
    (hk : ∀ x, (enc x).length = k) (h1 : ∀ x, ∀ u ∈ enc x, u.oneCell' = true) (hby : bytes ≤ 1000) (w : World) (ty : TypeId) (b base : Nat) (hbb : base ≤ b) (hb : Blk w b #[] e) (l : List α) (hl2 : l.length ≤ 140737488355) (ad : Option Addr) (c : Nat) (hsrc : SrcAt enc k w ad l) :
    ∃ v' w', (Builtin.append_ #[t, t] ty #[.slice (some ⟨b, 0, none⟩) 0 0, .slice ad l.length c]).run P w = .ok v' w' ∧ Below w.heap.size w w' ∧ w'.ownsRow base e k v' l.length (l.flatMap enc) := by
  obtain ⟨i, i1, i2, i3, i4⟩ := info_parts hi
  have hown : ∀ B, B ≤ b → w.ownsRow B e k (.slice (some ⟨b, 0, none⟩) 0 0) 0 [] := fun B hB => ⟨by simp, .inr ⟨b, 0, #[], rfl, hB, hb.out, by simp, by simp, by simp, by simp⟩⟩
  rcases Nat.eq_zero_or_pos l.length with h0 | hl
  · obtain rfl := List.length_eq_zero_iff.1 h0
    exact ⟨_, w, run_app_none w t ty e ht i i1 _ ad 0 0 c (Nat.le_refl _), Below.refl _ _, hown base hbb⟩
  · obtain ⟨q1, q2⟩ := hsrc.news hk
    obtain ⟨bs, o, rfl, hbs, hc⟩ := hsrc hl
    have hb9 : (0 + l.length) * bytes ≤ 140737488355328 := by rw [Nat.zero_add]; exact Nat.le_trans (Nat.mul_le_mul hl2 hby) (by decide)
    have hone : ∀ u ∈ l.flatMap enc, u.oneCell' = true := fun u hu => by
      obtain ⟨z, _, hz⟩ := List.mem_flatMap.1 hu
      exact h1 z u hz
    obtain ⟨v', w', r1, r2, _, _⟩ := run_app (P := P) w b t ty e z k bytes ht hi hzs hk0 _ 0 [] (hown b (Nat.le_refl _)) (some ⟨bs, o, none⟩) l.length c (l.flatMap enc) (flat_len hk l) q1 hone q2 (by simp [maxLen]; omega) hb9 (Nat.le_of_lt hb.lt)
    have hcap : Builtin.nextslicecap (0 + l.length) 0 * i.bytes ≤ 281474976710656 := by
      refine growslice_fits (by omega) ?_
      rw [i4]; exact hb9
    have r3 := run_append_grow (P := P) w t ty e i _ ht i1 i2 ⟨b, 0, none⟩ 0 0 [] (by simp) (by simp) ⟨bs, o, none⟩ l.length c (l.flatMap enc) (by rw [i3]; exact flat_len hk l) (q1 _ rfl) (by omega) (by simp [maxLen]; omega) hcap
    rw [Nat.zero_add] at r2 r3
    rw [r1] at r3
    injection r3 with e1 e2
    subst e1 e2
    refine ⟨_, _, r1, ((Below.refl _ w).drew).alloc (Nat.le_refl _) _, ?_⟩
    have h9 := r2
    rw [List.nil_append] at h9
    exact owns_rebase h9 hbb
end
section
variable {P : Program} {α : Type} {enc : α → List Value} {k : Nat} {ops : Array Oper} {a : Act} {w : World} {Q : Exit → Act → World → Prop} {d : Option Tmp} {x y : Operand}
theorem step_appRowsFresh {o : Oper} {K : Act → World → Prop} {E : Prop} {t e : TypeId} {z : Value} {bytes : Nat} (ht : P.underlying t = some (.slice e)) (hi : (P.info? e).map (fun i => (i.zero, i.size, i.bytes)) = some (some z, k, bytes)) (hzs : z.cells.size = k) (hk0 : 0 < k)
    (hk : ∀ x, (enc x).length = k) (h1 : ∀ x, ∀ u ∈ enc x, u.oneCell' = true) (hby : bytes ≤ 1000)
    (hd : o.dst = d) (hg : Region.wanted o (yielded ops a.tmps) = true) (ho : o.op = .call { callee := .builtin .append, args := #[x, y], argTypes := #[t, t] })
    (b base : Nat) (hbb : base ≤ b) (hb : Blk w b #[] e) (l : List α) (ad : Option Addr) (m c : Nat) (hm : m = l.length) (hsrc : SrcAt enc k w ad l)
    (hbytes : m ≤ 140737488355) (hx : a.eval x = .slice (some ⟨b, 0, none⟩) 0 0) (hy : a.eval y = .slice ad m c)
    (h : ∀ v' w', w'.ownsRow base e k v' m (l.flatMap enc) → Below w.heap.size w w' → K (a.put d v') w') :
    if Region.wanted o (yielded ops a.tmps) = true then Oper.wp P o a w K Q else E := by
  subst hm
  obtain ⟨v', w', hr, k1, k2⟩ := run_appRows_fresh (P := P) ht hi hzs hk0 hk h1 hby w o.type b base hbb hb l hbytes ad c hsrc
  refine step_run_w d hd hg (v := v') (w' := w') ?_ (h v' w' k2 k1)
  unfold execOp
  simp only [ho, resolve, invoke, builtin, Sem.run_bind, Sem.run_pure, Result.andThen_ok, List.map_toArray, List.map_cons, List.map_nil, hx, hy, hr]
end
section
variable {α : Type} {enc : α → List Value} {k : Nat}
theorem SrcAt.take {w : World} {a : Option Addr} {l : List α} (h : SrcAt enc k w a l) (n : Nat) : SrcAt enc k w a (l.take n) := fun hl => by
  rw [List.length_take] at hl
  obtain ⟨b, o, h1, h2, h3⟩ := h (by omega)
  refine ⟨b, o, h1, h2, fun i x hx j u hj => ?_⟩
  rw [List.getElem?_take] at hx
  split at hx
  · exact h3 i x hx j u hj
  · cases hx
theorem SrcAt.drop {w : World} {b o : Nat} {l : List α} (h : SrcAt enc k w (some ⟨b, o, none⟩) l) (n : Nat) : SrcAt enc k w (some ⟨b, o + n * k, none⟩) (l.drop n) := fun hl => by
  rw [List.length_drop] at hl
  obtain ⟨b', o', h1, h2, h3⟩ := h (by omega)
  injection h1 with h1
  injection h1 with q1 q2 _
  subst q1 q2
  refine ⟨b, _, rfl, h2, fun i x hx j u hj => ?_⟩
  rw [List.getElem?_drop] at hx
  have := h3 _ x hx j u hj
  rw [Nat.add_mul, ← Nat.add_assoc] at this
  exact this
end
end Go.Proofs.Ytimiehnknehagaa
