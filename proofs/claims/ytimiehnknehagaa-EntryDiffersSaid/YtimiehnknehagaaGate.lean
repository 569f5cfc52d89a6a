import Derived.Test.YtimiehnknehagaaLw
import Derived.Deep.RegionHeld3
set_option linter.unusedSimpArgs false
set_option linter.unusedVariables false
namespace Go.Proofs.Ytimiehnknehagaa
open Go.RowKit
/-! A region that draws its order, and in which a cell that is loaded is stored into later on: what is held of the world (S) is asked until a given operation (the gate g) has come up: those that load wait ahead of it. -/
section
variable {P : Program} {ops : Array Oper} {Q : Exit → Act → World → Prop} {md : Region.Mode} {S : World → Prop} {g : Nat}
/-- Any order from here on; S behind each operation, while g has not come up. -/
def AnyG (P : Program) (md : Region.Mode) (ops : Array Oper) (Q : Exit → Act → World → Prop) (S : World → Prop) (g : Nat) : Nat → Array Bool → Act → World → Prop
  | 0, l, a, w => Region.ready md ops l = [] ∧ Q .normal a w
  | n + 1, l, a, w => (Region.ready md ops l = [] → Q .normal a w) ∧
      ∀ i ∈ Region.ready md ops l, wpOp P ops Q i (fun a' w' => ((l.setIfInBounds i true).getD g false = false → S w') ∧ AnyG P md ops Q S g n (l.setIfInBounds i true) a' w') a w
theorem AnyG.any : ∀ (n : Nat) (l : Array Bool) (a : Act) (w : World), AnyG P md ops Q S g n l a w → wpAny P md ops Q n l a w
  | 0, _, _, _, h => h
  | n + 1, _, _, _, h => ⟨h.1, fun i hi => wpOp_mono (fun a' w' hk => AnyG.any n _ a' w' hk.2) (h.2 i hi)⟩
/-- Number i first. c: i's value hangs on S, and g waits for i. -/
theorem AnyG.first {i : Nat} {oi : Oper} {v : Value} (c : Bool) (hi : ops[i]? = some oi) (hs : Region.noSelect ops = true) (hig : i ≠ g)
    (hQ : ∀ c a w, Q (.panic c) (a.put oi.dst v) w → Q (.panic c) a w)
    (hg : c = true → ∃ og, ops[g]? = some og ∧ ∃ e ∈ og.after, Region.binds md e = true ∧ e.on = i) :
    ∀ (n : Nat) (l : Array Bool) (a : Act) (w : World), (c = true → l.getD g false = false) →
      (∀ j oj, ops[j]? = some oj → j ≠ i → l.getD j true = false → (∀ e ∈ oj.after, Region.binds md e = true → e.on ≠ i) → oi.apart ops oj = true) →
      i ∈ Region.ready md ops l → YieldsIf P ops (fun w => c = true → S w) oi v a → (l.getD g false = false → S w) →
      AnyG P md ops Q S g n (l.setIfInBounds i true) (a.put oi.dst v) w → AnyG P md ops Q S g (n + 1) l a w := by
  intro n
  have he : ∀ l : Array Bool, (l.setIfInBounds i true).getD g false = l.getD g false := fun l => getD_set_ne false hig
  induction n with
  | zero =>
    intro l a w hl _ hr hy hw H
    refine ⟨fun h => (by rw [h] at hr; cases hr), fun j hj => ?_⟩
    rcases Decidable.em (j = i) with rfl | hji
    · exact hy.wpOp hi (fun hc => hw (hl hc)) ⟨fun h => hw ((he l).symm.trans h), H⟩
    · have := ready_mono hj hji
      rw [H.1] at this; cases this
  | succ n ih =>
    intro l a w hl hap hr hy hw H
    refine ⟨fun h => (by rw [h] at hr; cases hr), fun j hj => ?_⟩
    rcases Decidable.em (j = i) with rfl | hji
    · exact hy.wpOp hi (fun hc => hw (hl hc)) ⟨fun h => hw ((he l).symm.trans h), H⟩
    · obtain ⟨hju, oj, hoj, hall⟩ := mem_ready.1 hj
      have hno : ∀ e ∈ oj.after, Region.binds md e = true → e.on ≠ i := fun e he hb hei => by
        have h1 := hall e he hb
        have h0 := (mem_ready.1 hr).1
        rw [hei] at h1
        by_cases hlt : i < l.size
        · simp [hlt] at h0 h1; rw [h0] at h1; cases h1
        · simp [Array.getElem?_eq_none (Nat.le_of_not_lt hlt)] at h1
      have h2 := wpOp_putIf hoj (hap j oj hoj hji hju hno) (fun cs b => Region.noSelect_spec hs i oi cs b hi) (fun cs b => Region.noSelect_spec hs j oj cs b hoj) hQ hy (H.2 j (ready_mono hj hji))
      have hl2 : c = true → (l.setIfInBounds j true).getD g false = false := fun hc => by
        obtain ⟨og, hog, e, hea, heb, hei⟩ := hg hc
        have hjg : j ≠ g := fun h => by
          subst h
          rw [hog] at hoj
          cases hoj
          exact hno e hea heb hei
        rw [getD_set_ne false hjg]
        exact hl hc
      refine wpOp_mono (fun a' w' hk => ?_) h2
      obtain ⟨hk1, hk2, hk3⟩ := hk
      rw [Array.setIfInBounds_comm _ _ (Ne.symm hji)] at hk2 hk3
      have hk2' : (l.setIfInBounds j true).getD g false = false → S w' := fun h => hk2 ((he _).trans h)
      refine ⟨hk2', ih (l.setIfInBounds j true) a' w' hl2 (fun k ok hok hki hku hkn => hap k ok hok hki ?_ hkn) (ready_mono hr (Ne.symm hji)) hk1 hk2' hk3⟩
      by_cases hjk : j = k
      · subst hjk; exact hju
      · rw [getD_set_ne true hjk] at hku; exact hku
/-- g waits for i. -/
def waits (md : Region.Mode) (ops : Array Oper) (g i : Nat) : Bool := match ops[g]? with
  | some o => o.after.any fun e => Region.binds md e && e.on == i
  | none => false
theorem waits_spec {g i : Nat} (h : waits md ops g i = true) : ∃ og, ops[g]? = some og ∧ ∃ e ∈ og.after, Region.binds md e = true ∧ e.on = i := by
  unfold waits at h
  split at h
  · rename_i o ho
    refine ⟨o, ho, ?_⟩
    simp only [Array.any_eq_true, Bool.and_eq_true, beq_iff_eq] at h
    obtain ⟨k, hk, h1, h2⟩ := h
    exact ⟨_, Array.getElem_mem hk, h1, h2⟩
  · cases h
theorem AnyG.done {l : Array Bool} {a : Act} {w : World} (hr : Region.ready md ops l = []) (h : Q .normal a w) : ∀ n, AnyG P md ops Q S g n l a w
  | 0 => ⟨hr, h⟩
  | _ + 1 => ⟨fun _ => h, by rw [hr]; simp⟩
variable {n : Nat} {l : Array Bool} {a : Act} {w : World}
/-- One operation that hangs on S first; its slot said outright. -/
theorem take_gop (i : Nat) (d : Option Tmp) {oi : Oper} {v : Value} (hi : ops[i]? = some oi) (hd : oi.dst = d)
    (hs : Region.noSelect ops = true) (hf : Region.free md ops l i = true) (hr : (Region.ready md ops l).contains i = true) (hw : (waits md ops g i && !(l.getD g false) && i != g) = true)
    (hQ : ∀ c a w, Q (.panic c) (a.put oi.dst v) w → Q (.panic c) a w) (hy : YieldsIf P ops S oi v a) (hS : S w)
    (h : AnyG P md ops Q S g n (l.setIfInBounds i true) (a.put d v) w) : AnyG P md ops Q S g (n + 1) l a w := by
  subst hd
  simp only [Bool.and_eq_true, Bool.not_eq_true', bne_iff_ne] at hw
  have hy' : YieldsIf P ops (fun w => true = true → S w) oi v a := by simpa using hy
  exact AnyG.first true hi hs hw.2 hQ (fun _ => waits_spec hw.1.1) n l a w (fun _ => hw.1.2) (Region.free_spec hi hf) (by simpa using hr) hy' (fun _ => hS) h
/-- One operation that hangs on nothing first, while S is held. -/
theorem take_gop0 (i : Nat) (d : Option Tmp) {oi : Oper} {v : Value} (hi : ops[i]? = some oi) (hd : oi.dst = d)
    (hs : Region.noSelect ops = true) (hf : Region.free md ops l i = true) (hr : (Region.ready md ops l).contains i = true) (hig : (i != g) = true)
    (hQ : ∀ c a w, Q (.panic c) (a.put oi.dst v) w → Q (.panic c) a w) (hy : YieldsIf P ops (fun _ => True) oi v a) (hS : l.getD g false = false → S w)
    (h : AnyG P md ops Q S g n (l.setIfInBounds i true) (a.put d v) w) : AnyG P md ops Q S g (n + 1) l a w := by
  subst hd
  have hy' : YieldsIf P ops (fun w => false = true → S w) oi v a := by simpa using hy
  exact AnyG.first false hi hs (by simpa using hig) hQ (fun h => by cases h) n l a w (fun h => by cases h) (Region.free_spec hi hf) (by simpa using hr) hy' hS h
/-- The one operation that can come up. -/
theorem go_gop (i : Nat) {o : Oper} (ho : ops[i]? = some o) (hr : Region.ready md ops l = [i])
    (h : ∀ K' : Act → World → Prop, Shut (∀ a w, ((l.setIfInBounds i true).getD g false = false → S w) → AnyG P md ops Q S g n (l.setIfInBounds i true) a w → K' a w) → if Region.wanted o (yielded ops a.tmps) = true then Oper.wp P o a w K' Q else K' (a.put o.dst undef) w) :
    AnyG P md ops Q S g (n + 1) l a w :=
  ⟨fun h0 => (by rw [hr] at h0; cases h0), fun j hj => by
    rw [hr] at hj
    obtain rfl := List.mem_singleton.1 hj
    exact wpOp_step ho (fun K' hK => h K' (fun a w hS hW => hK a w ⟨hS, hW⟩))⟩
/-- The same while the gate is shut: S is shown anew behind it. -/
theorem go_gopS (i : Nat) {o : Oper} (ho : ops[i]? = some o) (hr : Region.ready md ops l = [i])
    (h : ∀ K' : Act → World → Prop, Shut (∀ a w, S w → (S w → AnyG P md ops Q S g n (l.setIfInBounds i true) a w) → K' a w) → if Region.wanted o (yielded ops a.tmps) = true then Oper.wp P o a w K' Q else K' (a.put o.dst undef) w) :
    AnyG P md ops Q S g (n + 1) l a w := go_gop i ho hr fun K' hK => h K' fun a w h1 h2 => hK.out a w (fun _ => h1) (h2 h1)
/-- The same at the gate, or behind it. -/
theorem go_gopF (i : Nat) {o : Oper} (ho : ops[i]? = some o) (hr : Region.ready md ops l = [i]) (hg : (l.setIfInBounds i true).getD g false = true)
    (h : ∀ K' : Act → World → Prop, Shut (∀ a w, AnyG P md ops Q S g n (l.setIfInBounds i true) a w → K' a w) → if Region.wanted o (yielded ops a.tmps) = true then Oper.wp P o a w K' Q else K' (a.put o.dst undef) w) :
    AnyG P md ops Q S g (n + 1) l a w := go_gop i ho hr fun K' hK => h K' fun a w h2 => hK.out a w (fun h => by rw [hg] at h; cases h) h2
theorem wp_region_gate (S : World → Prop) (g : Nat) {id : Nat} (hm : P.follows .mixedOrders = true) (hS : S w.drew) (h : S w.drew → AnyG P .any ops Q S g ops.size (Array.replicate ops.size false) a w.drew) : (Code.region id ops true).wp P Q a w :=
  wp_region_any hm (AnyG.any _ _ _ _ (h hS))
/-- A step whose run is known. -/
theorem step_run {o : Oper} {K : Act → World → Prop} {E : Prop} (d : Option Tmp) (hd : o.dst = d) (hg : o.guard = none) {v : Value} {w' : World} (hr : (execOp a.eval o).run P w = .ok (.value v) w')
    (h : K (a.put d v) w') : if Region.wanted o (yielded ops a.tmps) = true then Oper.wp P o a w K Q else E := by
  subst hd
  have hw : Region.wanted o (yielded ops a.tmps) = true := by simp [Region.wanted, hg]
  rw [if_pos hw]
  unfold Oper.wp
  rw [hr, Oper.upon_value]
  exact h
/-- The same, the operation wanted (whatever its guard). -/
theorem step_run_w {o : Oper} {K : Act → World → Prop} {E : Prop} (d : Option Tmp) (hd : o.dst = d) (hw : Region.wanted o (yielded ops a.tmps) = true) {v : Value} {w' : World} (hr : (execOp a.eval o).run P w = .ok (.value v) w')
    (h : K (a.put d v) w') : if Region.wanted o (yielded ops a.tmps) = true then Oper.wp P o a w K Q else E := by
  subst hd
  rw [if_pos hw]
  unfold Oper.wp
  rw [hr, Oper.upon_value]
  exact h
/-- A step that lays one new row. -/
theorem step_new {o : Oper} {K : Act → World → Prop} {E : Prop} (d : Option Tmp) (hd : o.dst = d) (hg : o.guard = none) (cs : Array Value) (t : TypeId) {v : Value} (hr : (execOp a.eval o).run P w = .ok (.value v) (w.alloc (.cells cs t)))
    (h : ∀ w1, Below w.heap.size w w1 → w1.heap.size = w.heap.size + 1 → Blk w1 w.heap.size cs t → K (a.put d v) w1) : if Region.wanted o (yielded ops a.tmps) = true then Oper.wp P o a w K Q else E :=
  step_run d hd hg hr (h _ ((Below.refl _ _).alloc (Nat.le_refl _) _) (by simp) (Blk.new w cs t))
end
end Go.Proofs.Ytimiehnknehagaa
