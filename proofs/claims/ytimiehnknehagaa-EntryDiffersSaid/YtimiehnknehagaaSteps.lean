import Derived.Test.YtimiehnknehagaaGate
import Derived.Test.YtimiehnknehagaaConv
import Derived.Deep.AppendLies
set_option linter.unusedSimpArgs false
set_option linter.unusedVariables false
namespace Go.Proofs.Ytimiehnknehagaa
open Go.RowKit
section
variable {P : Program} {ops : Array Oper} {Q : Exit → Act → World → Prop} {a : Act} {w : World} {o : Oper} {K : Act → World → Prop} {E : Prop} {x y : Operand}
/-- 'make([]byte, n)' as one step of a region that draws. -/
theorem step_makeB {T e : TypeId} {by_ : Nat} (ht : P.underlying T = some (.slice e)) (hi : (P.info? e).map (fun i => (i.zero, i.size, i.bytes)) = some (some (.int .u8 0), 1, by_))
    (kl kc : IntKind) (n : Nat) (d : Option Tmp) (hd : o.dst = d) (hg : o.guard = none) (ho : o.op = .makeSlice T x y)
    (hx : a.eval x = .int kl (n : Int)) (hy : a.eval y = .int kc (n : Int)) (hb : by_ * n ≤ 281474976710656) (h63 : n ≤ 9223372036854775807)
    (h : ∀ w1, Below w.heap.size w w1 → w1.heap.size = w.heap.size + 1 → RowB w1 w.heap.size (List.replicate n 0) → K (a.put d (.slice (some ⟨w.heap.size, 0, none⟩) n n)) w1) :
    if Region.wanted o (yielded ops a.tmps) = true then Oper.wp P o a w K Q else E := by
  obtain ⟨i, h1, h2, h3, h4⟩ := info_parts hi
  have hb' : (i.bytes : Int) * (n : Int) ≤ 281474976710656 := by rw [h4, ← Int.natCast_mul]; omega
  have hr := run_make w T e i (.int .u8 0) ht h1 h2 kl kc n n (by omega) (Int.le_refl _) hb' (by omega)
  rw [h3] at hr
  have e1 : (n : Int).toNat = n := Int.toNat_natCast n
  rw [e1, madeCells_one _ n rfl] at hr
  refine step_run d hd hg (v := .slice (some ⟨w.heap.size, 0, none⟩) n n) (w' := w.alloc (.cells (Array.replicate n (.int .u8 0)) e)) ?_ (h _ ((Below.refl _ _).alloc (Nat.le_refl _) _) (by simp) (RowB.new w n e))
  unfold execOp
  simp only [ho, hx, hy, Sem.run_bind, hr, Result.andThen_ok, Sem.run_pure]
/-- 'string(b)'. -/
theorem step_toStr {src dst e : TypeId} (hs : P.underlying src = some (.slice e)) (he : P.underlying e = some (.int .u8)) (hdt : P.underlying dst = some .string)
    (b o' cap : Nat) (l : List UInt8) (n : Nat) (hn : n = l.length) (d : Option Tmp) (hd : o.dst = d) (hg : o.guard = none) (ho : o.op = .convert src dst x)
    (hx : a.eval x = .slice (some ⟨b, o', none⟩) n cap) (hc : ∀ j (hj : j < l.length), w.cell? ⟨b, o' + j, none⟩ = some (.int .u8 (l[j].toNat : Int)))
    (h : K (a.put d (.string ⟨l.toArray⟩)) w) : if Region.wanted o (yielded ops a.tmps) = true then Oper.wp P o a w K Q else E := by
  subst hn
  have hadd : ∀ j, (⟨b, o', none⟩ : Addr).add j = ⟨b, o' + j, none⟩ := fun j => Addr.add_mid b o' j
  have := run_convert_bytes_back (P := P) w src dst e ⟨b, o', none⟩ cap l hs he hdt (fun j hj => by rw [hadd]; exact hc j hj)
  refine step_run d hd hg (v := .string ⟨l.toArray⟩) (w' := w) ?_ h
  unfold execOp
  simp only [ho, hx, Sem.run_bind, this, Result.andThen_ok, Sem.run_pure]
/-- (whatever the guard) 'make([]byte, n)' as one step of a region that draws. -/
theorem step_makeB_w {T e : TypeId} {by_ : Nat} (ht : P.underlying T = some (.slice e)) (hi : (P.info? e).map (fun i => (i.zero, i.size, i.bytes)) = some (some (.int .u8 0), 1, by_))
    (kl kc : IntKind) (n : Nat) (d : Option Tmp) (hd : o.dst = d) (hg : Region.wanted o (yielded ops a.tmps) = true) (ho : o.op = .makeSlice T x y)
    (hx : a.eval x = .int kl (n : Int)) (hy : a.eval y = .int kc (n : Int)) (hb : by_ * n ≤ 281474976710656) (h63 : n ≤ 9223372036854775807)
    (h : ∀ w1, Below w.heap.size w w1 → w1.heap.size = w.heap.size + 1 → RowB w1 w.heap.size (List.replicate n 0) → K (a.put d (.slice (some ⟨w.heap.size, 0, none⟩) n n)) w1) :
    if Region.wanted o (yielded ops a.tmps) = true then Oper.wp P o a w K Q else E := by
  obtain ⟨i, h1, h2, h3, h4⟩ := info_parts hi
  have hb' : (i.bytes : Int) * (n : Int) ≤ 281474976710656 := by rw [h4, ← Int.natCast_mul]; omega
  have hr := run_make w T e i (.int .u8 0) ht h1 h2 kl kc n n (by omega) (Int.le_refl _) hb' (by omega)
  rw [h3] at hr
  have e1 : (n : Int).toNat = n := Int.toNat_natCast n
  rw [e1, madeCells_one _ n rfl] at hr
  refine step_run_w d hd hg (v := .slice (some ⟨w.heap.size, 0, none⟩) n n) (w' := w.alloc (.cells (Array.replicate n (.int .u8 0)) e)) ?_ (h _ ((Below.refl _ _).alloc (Nat.le_refl _) _) (by simp) (RowB.new w n e))
  unfold execOp
  simp only [ho, hx, hy, Sem.run_bind, hr, Result.andThen_ok, Sem.run_pure]
/-- (whatever the guard) 'string(b)'. -/
theorem step_toStr_w {src dst e : TypeId} (hs : P.underlying src = some (.slice e)) (he : P.underlying e = some (.int .u8)) (hdt : P.underlying dst = some .string)
    (b o' cap : Nat) (l : List UInt8) (n : Nat) (hn : n = l.length) (d : Option Tmp) (hd : o.dst = d) (hg : Region.wanted o (yielded ops a.tmps) = true) (ho : o.op = .convert src dst x)
    (hx : a.eval x = .slice (some ⟨b, o', none⟩) n cap) (hc : ∀ j (hj : j < l.length), w.cell? ⟨b, o' + j, none⟩ = some (.int .u8 (l[j].toNat : Int)))
    (h : K (a.put d (.string ⟨l.toArray⟩)) w) : if Region.wanted o (yielded ops a.tmps) = true then Oper.wp P o a w K Q else E := by
  subst hn
  have hadd : ∀ j, (⟨b, o', none⟩ : Addr).add j = ⟨b, o' + j, none⟩ := fun j => Addr.add_mid b o' j
  have := run_convert_bytes_back (P := P) w src dst e ⟨b, o', none⟩ cap l hs he hdt (fun j hj => by rw [hadd]; exact hc j hj)
  refine step_run_w d hd hg (v := .string ⟨l.toArray⟩) (w' := w) ?_ h
  unfold execOp
  simp only [ho, hx, Sem.run_bind, this, Result.andThen_ok, Sem.run_pure]
/-- 'append' of one element of one cell onto a row that the call owns. -/
theorem step_app {t e : TypeId} {z : Value} {by_ : Nat} (ht : P.underlying t = some (.slice e)) (hi : (P.info? e).map (fun i => (i.zero, i.size, i.bytes)) = some (some z, 1, by_)) (hz : z.cells.size = 1)
    (d : Option Tmp) (hd : o.dst = d) (hg : o.guard = none) (ho : o.op = .call { callee := .builtin .append, args := #[x, y], argTypes := #[t, t] })
    (base : Nat) (v : Value) (n : Nat) (xs : List Value) (hx : a.eval x = v) (hown : w.ownsRow base e 1 v n xs) (ad : Addr) (c : Nat) (u : Value) (hy : a.eval y = .slice (some ad) 1 c) (hu : w.cell? ad = some u) (h1 : u.oneCell' = true)
    (hn : n + 1 ≤ maxLen) (hb : (n + 1) * by_ ≤ 140737488355328) (hbase : base ≤ w.heap.size)
    (h : ∀ g cap w', w'.ownsRow base e 1 (.slice (some ⟨g, 0, none⟩) (n + 1) cap) (n + 1) (xs ++ [u]) → w.grownBy w' v.ownBlock → (v.ownBlock = some g ∨ g = w.heap.size) → g < w'.heap.size → K (a.put d (.slice (some ⟨g, 0, none⟩) (n + 1) cap)) w') :
    if Region.wanted o (yielded ops a.tmps) = true then Oper.wp P o a w K Q else E := by
  subst hd
  obtain ⟨i, i1, i2, i3, i4⟩ := info_parts hi
  refine step_append_lies w hg x y t ho base e i z 1 by_ ht i1 i2 i3 i4 hz (by decide) v n xs hx hown ad 1 c [u] hy rfl ?_ (by simpa using h1) (by decide) hn hb hbase _ rfl h
  intro j v' hj
  match j with
  | 0 =>
    simp at hj
    subst hj
    have e0 : ad.add 0 = ad := by obtain ⟨b, o, s⟩ := ad; simp [Addr.add]
    rw [e0]; exact hu
  | j + 1 => simp at hj
theorem below_grown {B : Nat} {w w' : World} {row : Option Nat} (h : w.grownBy w' row) (hB : B ≤ w.heap.size) (hr : ∀ k, row = some k → B ≤ k) : Below B w w' :=
  ⟨h.os, h.tape, h.output, h.size, fun k hk => h.block k (Nat.lt_of_lt_of_le hk hB) (fun e => by have := hr k e.symm; omega)⟩
theorem owns_block {w : World} {base : Nat} {e : TypeId} {s : Nat} {v : Value} {n : Nat} {xs : List Value} (h : w.ownsRow base e s v n xs) : ∀ k, v.ownBlock = some k → base ≤ k := by
  intro k hk
  rcases h.2 with ⟨rfl, _⟩ | ⟨g, cap, cur, rfl, hb, _⟩
  · cases hk
  · simp [Value.ownBlock] at hk; omega
/-- A row that is owned is owned where its blocks stayed. -/
theorem owns_below {w w' : World} {B base : Nat} {e : TypeId} {s : Nat} {v : Value} {n : Nat} {xs : List Value} (h : w.ownsRow base e s v n xs) (hb : Below B w w') (hB : w.heap.size ≤ B) : w'.ownsRow base e s v n xs := by
  refine ⟨h.1, ?_⟩
  rcases h.2 with h0 | ⟨g, cap, cur, h1, h2, h3, h4⟩
  · exact .inl h0
  · exact .inr ⟨g, cap, cur, h1, h2, (hb.block g (Nat.lt_of_lt_of_le (lt_of_block h3) hB)).trans h3, h4⟩
end
theorem own_slice {w : World} {base n s : Nat} {e : TypeId} {v : Value} {xs : List Value} (h : w.ownsRow base e s v (n + 1) xs) : ∃ g cap, v = .slice (some ⟨g, 0, none⟩) (n + 1) cap := by
  rcases h.2 with ⟨_, h0⟩ | ⟨g, cap, cur, hv, _⟩
  · omega
  · exact ⟨g, cap, hv⟩
theorem owns_rebase {w : World} {B base : Nat} {e : TypeId} {size n : Nat} {v : Value} {xs : List Value} (h : w.ownsRow base e size v n xs) (hB : B ≤ base) : w.ownsRow B e size v n xs := by
  refine ⟨h.1, ?_⟩
  rcases h.2 with h0 | ⟨g, cap, cur, h1, h2, h3⟩
  · exact .inl h0
  · exact .inr ⟨g, cap, cur, h1, Nat.le_trans hB h2, h3⟩
end Go.Proofs.Ytimiehnknehagaa
