import Derived.Test.YtimiehnknehagaaLw
import Derived.Test.YtimiehnknehagaaGate
import Derived.Test.YtimiehnknehagaaSteps
set_option linter.unusedSimpArgs false
set_option linter.unusedVariables false
namespace Go.Proofs.Ytimiehnknehagaa
open Go.RowKit
/-! A region that draws its order, some of whose operations lay new memory: in whatever order. Each operation i that is left yields a value of which RR i tells, and RR stays true over new memory: so one step for each operation is enough. -/
section
variable {P : Program} {ops : Array Oper} {Q : Exit → Act → World → Prop} {md : Region.Mode}
def upd (xs : Nat → Value) (i : Nat) (v : Value) : Nat → Value := fun j => if j = i then v else xs j
def putAll (a : Act) (rem : List (Nat × Nat)) (xs : Nat → Value) : Act := rem.foldl (fun a p => a.put (some p.2) (xs p.1)) a
theorem put_comm' (a : Act) {d e : Nat} (h : d ≠ e) (u v : Value) : (a.put (some d) u).put (some e) v = (a.put (some e) v).put (some d) u := by
  simp only [Act.put]
  rw [Array.setIfInBounds_comm _ _ h]
theorem put_put' (a : Act) (d : Nat) (u v : Value) : (a.put (some d) u).put (some d) v = a.put (some d) v := by
  simp [Act.put]
theorem putAll_put : ∀ (rem : List (Nat × Nat)) (a : Act) (xs : Nat → Value) (d : Nat) (v : Value), d ∉ rem.map (·.2) → putAll (a.put (some d) v) rem xs = (putAll a rem xs).put (some d) v
  | [], _, _, _, _, _ => rfl
  | p :: rem, a, xs, d, v, h => by
    simp only [List.map_cons, List.mem_cons, not_or] at h
    show putAll ((a.put (some d) v).put (some p.2) (xs p.1)) rem xs = _
    rw [put_comm' a h.1, putAll_put rem _ xs d v h.2]
    rfl
theorem putAll_congr : ∀ (rem : List (Nat × Nat)) (a : Act) (xs ys : Nat → Value), (∀ p ∈ rem, xs p.1 = ys p.1) → putAll a rem xs = putAll a rem ys
  | [], _, _, _, _ => rfl
  | p :: rem, a, xs, ys, h => by
    show putAll (a.put (some p.2) (xs p.1)) rem xs = putAll (a.put (some p.2) (ys p.1)) rem ys
    rw [h p (by simp)]
    exact putAll_congr rem _ xs ys (fun q hq => h q (by simp [hq]))
theorem putAll_upd : ∀ (rem : List (Nat × Nat)) (a : Act) (xs : Nat → Value) (i d : Nat) (v : Value), (i, d) ∈ rem → (rem.map (·.1)).Nodup → (rem.map (·.2)).Nodup → (putAll a rem xs).put (some d) v = putAll a rem (upd xs i v)
  | [], _, _, _, _, _, h, _, _ => by cases h
  | p :: rem, a, xs, i, d, v, h, h1, h2 => by
    simp only [List.map_cons, List.nodup_cons] at h1 h2
    rcases List.mem_cons.1 h with h | h
    · subst h
      show (putAll (a.put (some d) (xs i)) rem xs).put (some d) v = putAll (a.put (some d) (upd xs i v i)) rem (upd xs i v)
      rw [← putAll_put rem _ xs d v h2.1, put_put']
      have : upd xs i v i = v := by simp [upd]
      rw [this]
      refine putAll_congr rem _ _ _ (fun q hq => ?_)
      have : q.1 ≠ i := fun e => h1.1 (List.mem_map.2 ⟨q, hq, e⟩)
      simp [upd, this]
    · have hi : i ≠ p.1 := fun e => h1.1 (List.mem_map.2 ⟨_, h, e⟩)
      show (putAll (a.put (some p.2) (xs p.1)) rem xs).put (some d) v = putAll (a.put (some p.2) (upd xs i v p.1)) rem (upd xs i v)
      rw [putAll_upd rem _ xs i d v h h1.2 h2.2]
      have : upd xs i v p.1 = xs p.1 := by simp [upd, Ne.symm hi]
      rw [this]
theorem putAll_self : ∀ (rem : List (Nat × Nat)) (a : Act), (rem.map (·.1)).Nodup → (rem.map (·.2)).Nodup → ∃ xs, putAll a rem xs = a
  | [], _, _, _ => ⟨fun _ => undef, rfl⟩
  | p :: rem, a, h1, h2 => by
    simp only [List.map_cons, List.nodup_cons] at h1 h2
    obtain ⟨xs, hx⟩ := putAll_self rem a h1.2 h2.2
    refine ⟨upd xs p.1 (a.tmps.getD p.2 undef), ?_⟩
    have e : upd xs p.1 (a.tmps.getD p.2 undef) p.1 = a.tmps.getD p.2 undef := by simp [upd]
    have e2 : a.put (some p.2) (a.tmps.getD p.2 undef) = a := by
      obtain ⟨t, df⟩ := a
      simp only [Act.put]
      congr 1
      apply Array.ext_getElem?
      intro i
      rw [Array.getElem?_setIfInBounds]
      by_cases h : p.2 = i
      · subst h
        by_cases hl : p.2 < t.size
        · simp [hl]
        · simp [hl]
      · simp [h]
    show putAll (a.put (some p.2) (upd xs p.1 (a.tmps.getD p.2 undef) p.1)) rem _ = a
    rw [e, e2]
    rw [← hx]
    rw [putAll_congr rem (putAll a rem xs) _ xs]
    · rw [hx, hx]
    · intro q hq
      have : q.1 ≠ p.1 := fun h => h1.1 (List.mem_map.2 ⟨q, hq, h⟩)
      simp [upd, this]
/-- Some of what is left, in an order in which it can come up. -/
def topo (md : Region.Mode) (ops : Array Oper) : List (Nat × Nat) → Array Bool → Bool
  | [], _ => true
  | p :: r, l => decide (p.1 < ops.size) && ((ops[p.1]?).map (fun o => (o.dst == some p.2) && o.after.all fun e => !Region.binds md e || l.getD e.on false)).getD false && topo md ops r (l.setIfInBounds p.1 true)
theorem topo_ready : ∀ (rem : List (Nat × Nat)) (l0 l : Array Bool), topo md ops rem l0 = true → (∀ j, l0.getD j false = true → l.getD j false = true) → l.size = ops.size → l0.size = ops.size → (∀ p ∈ rem, p.1 ∉ Region.ready md ops l) → ∀ p ∈ rem, l.getD p.1 false = true
  | [], _, _, _, _, _, _, _ => fun p hp => by cases hp
  | p :: rem, l0, l, ht, hle, hs, hs0, hr => by
    simp only [topo, Bool.and_eq_true, decide_eq_true_eq] at ht
    obtain ⟨⟨hlt, ho⟩, ht⟩ := ht
    have hp : l.getD p.1 false = true := by
      cases hb : l.getD p.1 false
      · exfalso
        have : p.1 ∈ Region.ready md ops l := by
          rw [mem_ready]
          have hlt' : p.1 < l.size := by omega
          refine ⟨by simp [hlt'] at hb ⊢; exact hb, ?_⟩
          cases hop : ops[p.1]? with
          | none => rw [hop] at ho; simp at ho
          | some o =>
            rw [hop] at ho
            simp only [Option.map_some, Option.getD_some, Bool.and_eq_true] at ho
            refine ⟨o, rfl, fun e he hbd => ?_⟩
            have := ho.2
            rw [Array.all_eq_true] at this
            obtain ⟨k, hk, rfl⟩ := Array.getElem_of_mem he
            have h3 := this k hk
            rw [hbd] at h3
            exact hle _ (by simpa using h3)
        exact hr p (by simp) this
      · rfl
    intro q hq
    rcases List.mem_cons.1 hq with rfl | hq
    · exact hp
    · refine topo_ready rem (l0.setIfInBounds p.1 true) l ht (fun j hj => ?_) hs (by simpa using hs0) (fun p hp => hr p (by simp [hp])) q hq
      by_cases h : p.1 = j
      · rw [← h]; exact hp
      · rw [getD_set_ne false h] at hj; exact hle j hj
/-- Those of them for which no other one of them waits. -/
def maxs (md : Region.Mode) (ops : Array Oper) (rem : List (Nat × Nat)) : List Nat := (rem.map (·.1)).filter fun i => !(rem.any fun k => waits md ops k.1 i)
/-- Each other one is waited for by a later one. -/
def chained (md : Region.Mode) (ops : Array Oper) (mx : List Nat) : List (Nat × Nat) → Bool
  | [] => true
  | p :: r => (mx.contains p.1 || r.any fun k => waits md ops k.1 p.1) && chained md ops mx r
theorem chained_all {l : Array Bool} {mx : List Nat} (hz : ∀ z ∈ mx, l.getD z false = true) : ∀ (rem : List (Nat × Nat)), chained md ops mx rem = true →
    (∀ p ∈ rem, l.getD p.1 false = true → ∀ o, ops[p.1]? = some o → ∀ e ∈ o.after, Region.binds md e = true → l.getD e.on false = true) → ∀ p ∈ rem, l.getD p.1 false = true
  | [], _, _ => fun p hp => by cases hp
  | p :: r, hc, hcl => by
    simp only [chained, Bool.and_eq_true, Bool.or_eq_true, List.any_eq_true] at hc
    obtain ⟨hc1, hc2⟩ := hc
    have ih := chained_all hz r hc2 (fun p hp => hcl p (by simp only [List.mem_cons] at hp ⊢; exact .inr hp))
    intro x hx
    rcases List.mem_cons.1 hx with rfl | hx
    · rcases hc1 with hc1 | ⟨k, hk, hw⟩
      · exact hz _ (by simpa using hc1)
      · obtain ⟨o, ho, e, he, hb, hon⟩ := waits_spec hw
        have := hcl k (by simp only [List.mem_cons]; exact .inr hk) (ih k hk) o ho e he hb
        rw [hon] at this; exact this
    · exact ih x hx
/-- All others wait for these, or for one another. -/
def outside (md : Region.Mode) (ops : Array Oper) (rem : List (Nat × Nat)) (l0 : Array Bool) : Bool :=
  (List.range ops.size).all fun j => l0.getD j false || (rem.map (·.1)).contains j || (maxs md ops rem).all (fun z => waits md ops j z) ||
    ((ops[j]?).map fun o => o.after.any fun e => Region.binds md e && !(l0.getD e.on false) && !((rem.map (·.1)).contains e.on)).getD false
/-- One operation's step. -/
def InvStep (P : Program) (md : Region.Mode) (ops : Array Oper) (Q : Exit → Act → World → Prop) (S : World → Prop) (a0 : Act) (rem : List (Nat × Nat)) (RR : Nat → Value → World → Prop) (i : Nat) : Prop :=
  ∀ o, ops[i]? = some o → ∀ xs w, S w → (∀ j, waits md ops i j = true → RR j (xs j) w) → ∀ K : Act → World → Prop,
    Shut (∀ a' v w', a' = (putAll a0 rem xs).put o.dst v → RR i v w' → Below w.heap.size w w' → K a' w') →
    if Region.wanted o (yielded ops (putAll a0 rem xs).tmps) = true then Oper.wp P o (putAll a0 rem xs) w K Q else K ((putAll a0 rem xs).put o.dst undef) w
def InvSteps (P : Program) (md : Region.Mode) (ops : Array Oper) (Q : Exit → Act → World → Prop) (S : World → Prop) (a0 : Act) (rem : List (Nat × Nat)) (RR : Nat → Value → World → Prop) (rs : List Nat) : Prop := ∀ i ∈ rs, InvStep P md ops Q S a0 rem RR i
theorem InvSteps.nil {S : World → Prop} {a0 : Act} {rem : List (Nat × Nat)} {RR : Nat → Value → World → Prop} : InvSteps P md ops Q S a0 rem RR [] := fun _ h => by cases h
theorem InvSteps.cons {S : World → Prop} {a0 : Act} {rem : List (Nat × Nat)} {RR : Nat → Value → World → Prop} {i : Nat} {rs : List Nat} {o : Oper} (ho : ops[i]? = some o)
    (h : ∀ xs w, S w → (∀ j, waits md ops i j = true → RR j (xs j) w) → ∀ A, A = putAll a0 rem xs → ∀ K : Act → World → Prop,
      Shut (∀ a' v w', a' = A.put o.dst v → RR i v w' → Below w.heap.size w w' → K a' w') →
      if Region.wanted o (yielded ops A.tmps) = true then Oper.wp P o A w K Q else K (A.put o.dst undef) w)
    (hs : InvSteps P md ops Q S a0 rem RR rs) : InvSteps P md ops Q S a0 rem RR (i :: rs) := fun j hj => by
  rcases List.mem_cons.1 hj with rfl | hj
  · intro o' ho'
    rw [ho] at ho'
    obtain rfl := Option.some.inj ho'
    exact fun xs w hS hR K hK => h xs w hS hR _ rfl K hK
  · exact hs j hj
theorem any_inv {S T : World → Prop} {a0 : Act} {rem : List (Nat × Nat)} {RR : Nat → Value → World → Prop} {l0 : Array Bool} {m : Nat}
    (hTS : ∀ w, T w → S w) (hS : ∀ w w', T w → Below w.heap.size w w' → T w') (hst : ∀ j u w w', Below w.heap.size w w' → RR j u w → RR j u w') (hz : ∀ j u w, j ∉ rem.map (·.1) → RR j u w)
    (h1 : (rem.map (·.1)).Nodup) (h2 : (rem.map (·.2)).Nodup) (ht : topo md ops rem l0 = true) (hch : chained md ops (maxs md ops rem) rem = true) (hout : outside md ops rem l0 = true) (hl0 : l0.size = ops.size) (hun : ∀ p ∈ rem, l0.getD p.1 false = false)
    (hstep : InvSteps P md ops Q T a0 rem RR (rem.map (·.1)))
    (hdone : ∀ xs w, T w → (∀ j, RR j (xs j) w) → ∀ A, A = putAll a0 rem xs → wpAnyH P md ops Q S m (rem.foldl (fun l p => l.setIfInBounds p.1 true) l0) A w) :
    ∀ (n : Nat) (l : Array Bool) (xs : Nat → Value) (w : World), l.size = ops.size → (∀ j, l0.getD j false = true → l.getD j false = true) → (∀ j, l.getD j false = true → l0.getD j false = true ∨ j ∈ rem.map (·.1)) →
      (∀ p ∈ rem, l.getD p.1 false = true → ∀ o, ops[p.1]? = some o → ∀ e ∈ o.after, Region.binds md e = true → l.getD e.on false = true) →
      (rem.filter fun p => !(l.getD p.1 false)).length = n → T w → (∀ j, l.getD j false = true → RR j (xs j) w) → wpAnyH P md ops Q S (m + n) l (putAll a0 rem xs) w := by
  intro n
  induction n with
  | zero =>
    intro l xs w hl hle hge hcl hn hSw hR
    have hall : ∀ p ∈ rem, l.getD p.1 false = true := by
      have : (rem.filter fun p => !(l.getD p.1 false)) = [] := List.length_eq_zero_iff.1 hn
      rw [List.filter_eq_nil_iff] at this
      intro p hp
      have := this p hp
      simpa using this
    have hlq : l = rem.foldl (fun l p => l.setIfInBounds p.1 true) l0 := by
      have hfold : ∀ (rem : List (Nat × Nat)) (l0 : Array Bool) (j : Nat), (rem.foldl (fun l p => l.setIfInBounds p.1 true) l0).size = l0.size ∧ (j < l0.size → ((rem.foldl (fun l p => l.setIfInBounds p.1 true) l0).getD j false = true ↔ l0.getD j false = true ∨ j ∈ rem.map (·.1))) := by
        intro rem
        induction rem with
        | nil => intro l0 j; simp
        | cons p rem ih =>
          intro l0 j
          obtain ⟨i1, i2⟩ := ih (l0.setIfInBounds p.1 true) j
          refine ⟨by simpa using i1, fun hj => ?_⟩
          rw [List.foldl_cons, i2 (by simpa using hj)]
          by_cases h : p.1 = j
          · subst h; simp [hj]
          · rw [getD_set_ne false h]; simp [Ne.symm h]
      apply Array.ext_getElem?
      intro j
      obtain ⟨f1, f2⟩ := hfold rem l0 j
      by_cases hj : j < l.size
      · have hj0 : j < l0.size := by omega
        have hj1 : j < (rem.foldl (fun l p => l.setIfInBounds p.1 true) l0).size := by omega
        have hiff : l.getD j false = true ↔ (rem.foldl (fun l p => l.setIfInBounds p.1 true) l0).getD j false = true := by
          rw [f2 hj0]
          constructor
          · exact hge j
          · rintro (h | h)
            · exact hle j h
            · obtain ⟨p, hp, rfl⟩ := List.mem_map.1 h
              exact hall p hp
        rw [Array.getElem?_eq_getElem hj, Array.getElem?_eq_getElem hj1]
        congr 1
        simp only [Array.getD_eq_getD_getElem?, Array.getElem?_eq_getElem hj, Array.getElem?_eq_getElem hj1, Option.getD_some] at hiff
        exact Bool.eq_iff_iff.2 hiff
      · rw [Array.getElem?_eq_none (by omega), Array.getElem?_eq_none (by omega)]
    rw [hlq]
    refine hdone xs w hSw (fun j => ?_) _ rfl
    by_cases hj : j ∈ rem.map (·.1)
    · obtain ⟨p, hp, rfl⟩ := List.mem_map.1 hj
      exact hR _ (hall p hp)
    · exact hz j _ _ hj
  | succ n ih =>
    intro l xs w hl hle hge hcl hn hSw hR
    have hnot : ¬ ∀ p ∈ rem, l.getD p.1 false = true := by
      intro h
      have : (rem.filter fun p => !(l.getD p.1 false)) = [] := by
        rw [List.filter_eq_nil_iff]
        intro p hp
        rw [h p hp]; simp
      rw [this] at hn
      simp at hn
    refine ⟨fun hr => absurd (topo_ready rem l0 l ht hle hl hl0 (fun p _ => by rw [hr]; simp)) hnot, fun i hi => ?_⟩
    obtain ⟨hj1, o, ho, hdep⟩ := mem_ready.1 hi
    have hjs : i < ops.size := by
      rcases Nat.lt_or_ge i ops.size with h | h
      · exact h
      · rw [Array.getElem?_eq_none h] at ho; cases ho
    have hjl : i < l.size := by omega
    have hj2 : l.getD i false = false := by simp [hjl] at hj1 ⊢; exact hj1
    have him : i ∈ rem.map (·.1) := by
      unfold outside at hout
      rw [List.all_eq_true] at hout
      have h := hout i (List.mem_range.2 hjs)
      simp only [Bool.or_eq_true] at h
      rcases h with ((h | h) | h) | h
      · rw [hle i h] at hj2; cases hj2
      · simpa using h
      · exfalso
        rw [List.all_eq_true] at h
        refine hnot (chained_all (fun z hz => ?_) rem hch hcl)
        obtain ⟨o', ho', e, he, hb, rfl⟩ := waits_spec (h z hz)
        rw [ho] at ho'
        obtain rfl := Option.some.inj ho'
        exact hdep e he hb
      · exfalso
        rw [ho] at h
        simp only [Option.map_some, Option.getD_some, Array.any_eq_true, Bool.and_eq_true, Bool.not_eq_true'] at h
        obtain ⟨k, hk, ⟨hb, ha⟩, hb2⟩ := h
        have hon := hdep _ (Array.getElem_mem hk) hb
        rcases hge _ hon with h | h
        · rw [h] at ha; cases ha
        · simp only [List.contains_eq_mem, decide_eq_false_iff_not] at hb2
          exact hb2 h
    obtain ⟨p, hp, hpi⟩ := List.mem_map.1 him
    have hod : o.dst = some p.2 := by
      have hall : ∀ (rem : List (Nat × Nat)) (l : Array Bool), topo md ops rem l = true → ∀ p ∈ rem, ∀ o, ops[p.1]? = some o → o.dst = some p.2 := by
        intro rem
        induction rem with
        | nil => intro l _ p hp; cases hp
        | cons q rem ih2 =>
          intro l ht p hp o ho
          simp only [topo, Bool.and_eq_true, decide_eq_true_eq] at ht
          rcases List.mem_cons.1 hp with rfl | hp
          · have := ht.1.2
            rw [ho] at this
            simp only [Option.map_some, Option.getD_some, Bool.and_eq_true, beq_iff_eq] at this
            exact this.1
          · exact ih2 _ ht.2 p hp o ho
      exact hall rem l0 ht p hp o (by rw [hpi]; exact ho)
    refine wpOp_step ho (fun K hK => ?_)
    refine hstep i him o ho xs w hSw (fun j hj => ?_) K (fun a' v w' ha hv hb => hK a' w' ?_)
    · obtain ⟨o', ho', e, he, hb, rfl⟩ := waits_spec hj
      rw [ho] at ho'
      obtain rfl := Option.some.inj ho'
      exact hR _ (hdep e he hb)
    · subst ha
      rw [hod, putAll_upd rem a0 xs i p.2 v (by rw [← hpi]; exact hp) h1 h2]
      refine ⟨hTS _ (hS w w' hSw hb), ih (l.setIfInBounds i true) (upd xs i v) w' (by simpa using hl) (fun j hj => ?_) (fun j hj => ?_) (fun q hq hqt o' ho' e he hb' => ?_) ?_ (hS w w' hSw hb) (fun j hj => ?_)⟩
      · exact getD_set_true (hle j hj)
      · by_cases h : i = j
        · rw [← h]; exact .inr him
        · rw [getD_set_ne false h] at hj; exact hge j hj
      · by_cases h : i = q.1
        · rw [← h, ho] at ho'
          obtain rfl := Option.some.inj ho'
          exact getD_set_true (hdep e he hb')
        · rw [getD_set_ne false h] at hqt
          exact getD_set_true (hcl q hq hqt o' ho' e he hb')
      · have hsub : (rem.filter fun p => !((l.setIfInBounds i true).getD p.1 false)) = (rem.filter fun p => !(l.getD p.1 false)).filter fun p => p.1 != i := by
          rw [List.filter_filter]
          apply List.filter_congr
          intro q hq
          by_cases h : i = q.1
          · rw [← h]; simp [hjl]
          · rw [getD_set_ne false h]; simp [Ne.symm h]
        rw [hsub]
        have hone : ∀ (ls : List (Nat × Nat)), (ls.map (·.1)).Nodup → p ∈ ls → (ls.filter fun p => p.1 != i).length + 1 = ls.length := by
          intro ls
          induction ls with
          | nil => intro _ h; cases h
          | cons q ls ih2 =>
            intro hnd hpl
            simp only [List.map_cons, List.nodup_cons] at hnd
            rcases List.mem_cons.1 hpl with h | h
            · rw [← h]
              have hno : (ls.filter fun p => p.1 != i) = ls := by
                rw [List.filter_eq_self]
                intro x hx
                have hne : x.1 ≠ i := fun he => hnd.1 (by rw [← h, hpi, ← he]; exact List.mem_map.2 ⟨x, hx, rfl⟩)
                simpa using hne
              rw [List.filter_cons, hpi]
              simp [hno]
            · have hne : q.1 ≠ i := fun he => hnd.1 (by rw [he, ← hpi]; exact List.mem_map.2 ⟨p, h, rfl⟩)
              rw [List.filter_cons]
              simp only [bne_iff_ne, ne_eq, hne, not_false_eq_true, if_true, List.length_cons]
              rw [ih2 hnd.2 h]
        have := hone (rem.filter fun p => !(l.getD p.1 false)) (by
          have hs : ((rem.filter fun p => !(l.getD p.1 false)).map (·.1)).Sublist (rem.map (·.1)) := List.Sublist.map _ List.filter_sublist
          exact hs.nodup h1) (List.mem_filter.2 ⟨hp, by rw [hpi, hj2]; rfl⟩)
        omega
      · by_cases h : i = j
        · subst h
          have : upd xs i v i = v := by simp [upd]
          rw [this]; exact hv
        · rw [getD_set_ne false h] at hj
          have : upd xs i v j = xs j := by simp [upd, Ne.symm h]
          rw [this]
          exact hst _ _ _ _ hb (hR j hj)
/-- The same at a state on the way through a region that draws: some of what is left in 'rem', each with its slot; m: the fuel behind them. -/
theorem wpAnyH_inv {S T : World → Prop} {a : Act} {w : World} {n : Nat} {l : Array Bool} (rem : List (Nat × Nat)) (m : Nat) (RR : Nat → Value → World → Prop)
    (hn : n = m + rem.length)
    (hchk : (decide ((rem.map (·.1)).Nodup) && decide ((rem.map (·.2)).Nodup) && topo md ops rem l && chained md ops (maxs md ops rem) rem && outside md ops rem l && decide (l.size = ops.size) && (rem.all fun p => !(l.getD p.1 false))) = true)
    (hTS : ∀ w, T w → S w) (hS : ∀ w w', T w → Below w.heap.size w w' → T w') (hst : ∀ j u w w', Below w.heap.size w w' → RR j u w → RR j u w')
    (hz : ∀ j u w, j ∉ rem.map (·.1) → RR j u w) (hw : T w)
    (hstep : InvSteps P md ops Q T a rem RR (rem.map (·.1)))
    (hdone : ∀ xs w, T w → (∀ j, RR j (xs j) w) → ∀ A, A = putAll a rem xs → wpAnyH P md ops Q S m (rem.foldl (fun l p => l.setIfInBounds p.1 true) l) A w) : wpAnyH P md ops Q S n l a w := by
  simp only [Bool.and_eq_true, decide_eq_true_eq, List.all_eq_true, Bool.not_eq_true'] at hchk
  obtain ⟨⟨⟨⟨⟨⟨h1, h2⟩, h3⟩, h4⟩, h5⟩, h6⟩, h7⟩ := hchk
  obtain ⟨xs, hx⟩ := putAll_self rem a h1 h2
  have hno : ∀ p ∈ rem, ¬ l.getD p.1 false = true := fun p hp h => by rw [h7 p hp] at h; cases h
  have := any_inv (l0 := l) (a0 := a) (m := m) hTS hS hst hz h1 h2 h3 h4 h5 h6 h7 hstep hdone rem.length l xs w h6 (fun _ h => h) (fun j hj => .inl hj) (fun p hp h => absurd h (hno p hp)) ?_ hw (fun j hj => ?_)
  · rw [hx] at this; rw [hn]; exact this
  · rw [List.filter_eq_self.2 (fun p hp => by rw [h7 p hp]; rfl)]
  · refine hz j _ _ (fun hm => ?_)
    obtain ⟨p, hp, rfl⟩ := List.mem_map.1 hm
    exact hno p hp hj
/-- What an operation yields: a known value; a slice over a new row; a pointer to a new block. -/
inductive Yl
  | val (v : Value)
  | row (cs : Array Value) (t : TypeId)
  | ptr (cs : Array Value) (t : TypeId)
  | own (base : Nat) (t : TypeId) (n : Nat) (xs : List Value)
  | newp (base : Nat) (cs : Array Value) (t : TypeId)
  | newr (base : Nat) (cs : Array Value) (t : TypeId)
  | ownk (base : Nat) (t : TypeId) (k n : Nat) (xs : List Value)
  | rowk (n : Nat) (cs : Array Value) (t : TypeId)
def Yl.holds : Yl → Value → World → Prop
  | .val v, u, _ => u = v
  | .row cs t, u, w => ∃ b, u = .slice (some ⟨b, 0, none⟩) cs.size cs.size ∧ Blk w b cs t
  | .ptr cs t, u, w => ∃ b, u = .pointer (some ⟨b, 0, none⟩) ∧ Blk w b cs t
  | .own base t n xs, u, w => w.ownsRow base t 1 u n xs
  | .newp base cs t, u, w => ∃ b, u = .pointer (some ⟨b, 0, none⟩) ∧ base ≤ b ∧ Blk w b cs t
  | .newr base cs t, u, w => ∃ b, u = .slice (some ⟨b, 0, none⟩) cs.size cs.size ∧ base ≤ b ∧ Blk w b cs t
  | .ownk base t k n xs, u, w => w.ownsRow base t k u n xs
  | .rowk n cs t, u, w => ∃ b, u = .slice (some ⟨b, 0, none⟩) n n ∧ Blk w b cs t
theorem Yl.below {y : Yl} {u : Value} {w w' : World} (h : y.holds u w) (hb : Below w.heap.size w w') : y.holds u w' := by
  cases y with
  | val v => exact h
  | row cs t => obtain ⟨b, h1, h2⟩ := h; exact ⟨b, h1, h2.below hb h2.lt⟩
  | ptr cs t => obtain ⟨b, h1, h2⟩ := h; exact ⟨b, h1, h2.below hb h2.lt⟩
  | own base t n xs => exact owns_below h hb (Nat.le_refl _)
  | newp base cs t => obtain ⟨b, h1, h2, h3⟩ := h; exact ⟨b, h1, h2, h3.below hb h3.lt⟩
  | newr base cs t => obtain ⟨b, h1, h2, h3⟩ := h; exact ⟨b, h1, h2, h3.below hb h3.lt⟩
  | ownk base t k n xs => exact owns_below h hb (Nat.le_refl _)
  | rowk n cs t => obtain ⟨b, h1, h2⟩ := h; exact ⟨b, h1, h2.below hb h2.lt⟩
def tabHolds : List (Nat × Nat × Yl) → Nat → Value → World → Prop
  | [], _, _, _ => True
  | p :: r, j, u, w => match Nat.decEq p.1 j with
    | .isTrue _ => p.2.2.holds u w
    | .isFalse _ => tabHolds r j u w
theorem tabHolds_below : ∀ (tab : List (Nat × Nat × Yl)) (j : Nat) (u : Value) (w w' : World), Below w.heap.size w w' → tabHolds tab j u w → tabHolds tab j u w'
  | [], _, _, _, _, _, h => h
  | p :: r, j, u, w, w', hb, h => by
    unfold tabHolds at h ⊢
    split at h
    · exact Yl.below h hb
    · exact tabHolds_below r j u w w' hb h
theorem tabHolds_none : ∀ (tab : List (Nat × Nat × Yl)) (j : Nat) (u : Value) (w : World), j ∉ tab.map (·.1) → tabHolds tab j u w
  | [], _, _, _, _ => True.intro
  | p :: r, j, u, w, h => by
    simp only [List.map_cons, List.mem_cons, not_or] at h
    unfold tabHolds
    split
    · rename_i e _; exact absurd e.symm h.1
    · exact tabHolds_none r j u w h.2
/-- The same, by a table: operation, slot, what it yields. -/
theorem wpAnyH_tab {S : World → Prop} (T : World → Prop) {a : Act} {w : World} {n : Nat} {l : Array Bool} (is : List Nat) (m : Nat) (tab : List (Nat × Nat × Yl)) (his : tab.map (·.1) = is)
    (hn : n = m + is.length)
    (hchk : (decide (is.Nodup) && decide ((tab.map (·.2.1)).Nodup) && topo md ops (tab.map fun p => (p.1, p.2.1)) l && chained md ops (maxs md ops (tab.map fun p => (p.1, p.2.1))) (tab.map fun p => (p.1, p.2.1)) && outside md ops (tab.map fun p => (p.1, p.2.1)) l && decide (l.size = ops.size) && (is.all fun i => !(l.getD i false))) = true)
    (hTS : ∀ w, T w → S w) (hS : ∀ w w', T w → Below w.heap.size w w' → T w') (hw : T w)
    (hstep : InvSteps P md ops Q T a (tab.map fun p => (p.1, p.2.1)) (tabHolds tab) is)
    (hdone : ∀ xs w, T w → (∀ j, tabHolds tab j (xs j) w) → ∀ A, A = putAll a (tab.map fun p => (p.1, p.2.1)) xs → wpAnyH P md ops Q S m (is.foldl (fun l i => l.setIfInBounds i true) l) A w) : wpAnyH P md ops Q S n l a w := by
  subst his
  have e1 : (tab.map fun p => (p.1, p.2.1)).map (·.1) = tab.map (·.1) := by rw [List.map_map]; rfl
  have e2 : (tab.map fun p => (p.1, p.2.1)).map (·.2) = tab.map (·.2.1) := by rw [List.map_map]; rfl
  refine wpAnyH_inv (tab.map fun p => (p.1, p.2.1)) m (tabHolds tab) (by simpa using hn) ?_ hTS hS (tabHolds_below tab) (fun j u w hj => tabHolds_none tab j u w (by rw [← e1]; exact hj)) hw (by rw [e1]; exact hstep) (fun xs w hSw hR A hA => ?_)
  · rw [e1, e2]
    have e3 : ((tab.map fun p => (p.1, p.2.1)).all fun p => !(l.getD p.1 false)) = ((tab.map (·.1)).all fun i => !(l.getD i false)) := by
      rw [List.all_map, List.all_map]; rfl
    rw [e3]; exact hchk
  · have e4 : (tab.map fun p => (p.1, p.2.1)).foldl (fun l p => l.setIfInBounds p.1 true) l = (tab.map (·.1)).foldl (fun l i => l.setIfInBounds i true) l := by
      rw [List.foldl_map, List.foldl_map]
    rw [e4]
    exact hdone xs w hSw hR A hA
end
end Go.Proofs.Ytimiehnknehagaa
