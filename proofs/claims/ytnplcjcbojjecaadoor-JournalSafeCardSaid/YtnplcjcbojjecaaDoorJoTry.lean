import Derived.Test.YtnplcjcbojjecaaDoorJoWalk
set_option linter.unusedSimpArgs false
set_option linter.unusedVariables false
namespace Go.Proofs.YtnplcjcbojjecaaDoor
open Go.RowKit
/-! A try that may be cut off, and what is read behind it. -/
theorem OnDisk.same {m m' : DM} {j : JM} {num : Nat} (h : OnDisk m j num) (hS : m'.S = m.S) (hw : m'.wf) : OnDisk m' j num := by
  have hat : ∀ i, m'.at i = m.at i := fun i => by unfold DM.at; rw [hS]
  refine h.keep (by rw [hS]) hw (hat _) (fun k _ => hat _) (fun hk => by rw [hat]; exact h.stop hk) (by rw [hat]; exact h.other)
theorem Loose.same {m m' : DM} {j : JM} {num : Nat} (h : Loose m j num) (hS : m'.S = m.S) (hw : m'.wf) : Loose m' j num :=
  ⟨h.on.same hS hw, fun i hi => by
    have hat : m'.at i = m.at i := by unfold DM.at; rw [hS]
    rw [hat]; exact h.all i (by rw [← hS]; exact hi)⟩
theorem OwnFree.same {m m' : DM} {j : JM} (h : OwnFree m j) (hS : m'.S = m.S) : OwnFree m' j := fun i hi => by
  have hl : m'.S.length = m.S.length := by rw [hS]
  have hat : ∀ i, m'.at i = m.at i := fun i => by unfold DM.at; rw [hS]
  rw [same_first hl, hat]; exact h i (by rw [same_size hl] at hi; exact hi)
theorem OthFree.same {m m' : DM} {j : JM} {num : Nat} (h : OthFree m j num) (hS : m'.S = m.S) : OthFree m' j num := by
  have hl : m'.S.length = m.S.length := by rw [hS]
  have hat : ∀ i, m'.at i = m.at i := fun i => by unfold DM.at; rw [hS]
  exact ⟨fun i hi => by rw [same_first hl, hat]; exact h.1 i (by rw [same_size hl] at hi; exact hi), by rw [hat]; exact h.2⟩
/-- What a try asks of the disk. -/
def Need (fl : Bool) (m : DM) (j : JM) (num : Nat) : Prop := if fl then OthFree m j num else OwnFree m j
def tryF (fl : Bool) (m : DM) (j : JM) (s : ByteArray) : DM × JM × Int := if fl then saveF m j s else appendF m j s
def afterF (fl : Bool) (j : JM) (s : ByteArray) : JM := if fl then save1 j s else more1 j s
theorem Tight.of_new {m : DM} {j : JM} {num : Nat} (h : OnDisk m j num) (ha : ∀ i, i < m.S.length → tail4 (m.at i) < j.next) (ho : tail4 (m.at (1 - j.area)) < num) : Tight m j num := ⟨h, ha, ho⟩
theorem try_law (fl : Bool) {m : DM} {j : JM} {num : Nat} (h : Loose m j num) (hd : m.dead = false) (hj : j.dead = false) (hn : j.next ≤ 2147483648) (s : ByteArray) (hs : s.size ≤ 60000) (hneed : Need fl m j num) :
    ∃ jn num', Loose (tryF fl m j s).1 jn num' ∧ jn.dead = false ∧ jn.next ≤ j.next + 1 ∧
      ((jn = j ∧ ((tryF fl m j s).2.2 = 73 ∨ (tryF fl m j s).2.2 = 74)) ∨ (jn = afterF fl j s ∧ ((tryF fl m j s).2.2 = 0 ∨ (tryF fl m j s).2.2 = 74))) ∧
      (Tight m j num → Need (!fl) (tryF fl m j s).1 jn num') ∧ (tryF fl m j s).1.S.length = m.S.length ∧ (tryF fl m j s).1.wf := by
  cases fl with
  | false =>
    have hneed : OwnFree m j := hneed
    obtain ⟨r, hr, g1, g2, g3⟩ := append_law h hd hj s (fun _ => hneed)
    show ∃ jn num', Loose (appendF m j s).1 jn num' ∧ jn.dead = false ∧ jn.next ≤ j.next + 1 ∧ ((jn = j ∧ ((appendF m j s).2.2 = 73 ∨ (appendF m j s).2.2 = 74)) ∨ (jn = more1 j s ∧ ((appendF m j s).2.2 = 0 ∨ (appendF m j s).2.2 = 74))) ∧ (Tight m j num → OthFree (appendF m j s).1 jn num') ∧ (appendF m j s).1.S.length = m.S.length ∧ (appendF m j s).1.wf
    rw [← hr]
    have key : OnDisk r.1 (more1 j s) num → (∀ i, i < m.S.length → tail4 (r.1.at i) < j.next + 1) → r.1.at (1 - j.area) = m.at (1 - j.area) → Loose r.1 (more1 j s) num ∧ (Tight m j num → OthFree r.1 (more1 j s) num) := fun k1 k2 k3 =>
      ⟨⟨k1, fun i hi => by have := k2 i (by omega); show _ ≤ j.next + 1; omega⟩, fun ht => (Tight.of_new k1 (fun i hi => by have := k2 i (by omega); show _ < j.next + 1; omega) (by show tail4 (r.1.at (1 - j.area)) < num; rw [k3]; exact ht.oth)).othf⟩
    rcases g3 with ⟨e1, _, _, _, _, e6, _, e8, e9, e10⟩ | ⟨e1, e2, e3⟩ | ⟨e1, _, _, e4⟩
    · have e6 : r.2.1 = more1 j s := e6
      rw [e6] at e8
      obtain ⟨k1, k2⟩ := key e8 e9 e10
      exact ⟨more1 j s, num, k1, hj, Nat.le_refl _, .inr ⟨rfl, .inl e1⟩, k2, g1, g2⟩
    · refine ⟨j, num, by rw [e2]; exact h, hj, Nat.le_succ _, .inl ⟨rfl, ?_⟩, fun ht => by rw [e2]; exact ht.othf, g1, g2⟩
      rcases e1 with ⟨_, e⟩ | ⟨e, _⟩
      · omega
      · exact .inl e
    · rcases e4 with ⟨e8, e9, e10⟩ | ⟨e8, e9⟩
      · obtain ⟨k1, k2⟩ := key e8 e9 e10
        exact ⟨more1 j s, num, k1, hj, Nat.le_refl _, .inr ⟨rfl, .inr e1⟩, k2, g1, g2⟩
      · exact ⟨j, num, e8, hj, Nat.le_succ _, .inl ⟨rfl, .inr e1⟩, fun ht => e9 ht.othf, g1, g2⟩
  | true =>
    have hneed : OthFree m j num := hneed
    obtain ⟨r, hr, g1, g2, g3⟩ := save_law h hd hj s (fun _ => hneed)
    show ∃ jn num', Loose (saveF m j s).1 jn num' ∧ jn.dead = false ∧ jn.next ≤ j.next + 1 ∧ ((jn = j ∧ ((saveF m j s).2.2 = 73 ∨ (saveF m j s).2.2 = 74)) ∨ (jn = save1 j s ∧ ((saveF m j s).2.2 = 0 ∨ (saveF m j s).2.2 = 74))) ∧ (Tight m j num → OwnFree (saveF m j s).1 jn) ∧ (saveF m j s).1.S.length = m.S.length ∧ (saveF m j s).1.wf
    rw [← hr]
    have key : OnDisk r.1 (save1 j s) j.next → (∀ i, i < m.S.length → tail4 (r.1.at i) < j.next + 1) → tail4 (r.1.at j.area) < j.next → Loose r.1 (save1 j s) j.next ∧ (Tight m j num → OwnFree r.1 (save1 j s)) := fun k1 k2 k3 =>
      ⟨⟨k1, fun i hi => by have := k2 i (by omega); show _ ≤ j.next + 1; omega⟩, fun _ => (Tight.of_new k1 (fun i hi => by have := k2 i (by omega); show _ < j.next + 1; omega) (by
        show tail4 (r.1.at (1 - (1 - j.area))) < j.next
        have := h.on.area
        rw [show 1 - (1 - j.area) = j.area by omega]; exact k3)).own⟩
    rcases g3 with ⟨e1, _, _, _, e6, _, e8, e9, e10⟩ | ⟨e1, e2, e3⟩ | ⟨e1, _, _, e4⟩
    · have e6 : r.2.1 = save1 j s := e6
      rw [e6] at e8
      obtain ⟨k1, k2⟩ := key e8 e9 e10
      exact ⟨save1 j s, j.next, k1, rfl, Nat.le_refl _, .inr ⟨rfl, .inl e1⟩, k2, g1, g2⟩
    · refine ⟨j, num, by rw [e2]; exact h, hj, Nat.le_succ _, .inl ⟨rfl, ?_⟩, fun ht => by rw [e2]; exact ht.own, g1, g2⟩
      rcases e1 with ⟨_, e⟩ | ⟨e, _⟩
      · omega
      · exact .inl e
    · rcases e4 with ⟨e8, e9, e10⟩ | ⟨e8, e9⟩
      · obtain ⟨k1, k2⟩ := key e8 e9 e10
        exact ⟨save1 j s, j.next, k1, rfl, Nat.le_refl _, .inr ⟨rfl, .inr e1⟩, k2, g1, g2⟩
      · exact ⟨j, num, e8, hj, Nat.le_succ _, .inl ⟨rfl, .inr e1⟩, fun ht => e9 ht.own, g1, g2⟩
theorem Tight.same {m m' : DM} {j : JM} {num : Nat} (h : Tight m j num) (hS : m'.S = m.S) (hw : m'.wf) : Tight m' j num := by
  have hat : ∀ i, m'.at i = m.at i := fun i => by unfold DM.at; rw [hS]
  exact ⟨h.on.same hS hw, fun i hi => by rw [hat]; exact h.all i (by rw [← hS]; exact hi), by rw [hat]; exact h.oth⟩
theorem Tight.need {m : DM} {j : JM} {num : Nat} (h : Tight m j num) (fl : Bool) : Need fl m j num := by
  cases fl
  · exact h.own
  · exact h.othf
theorem Need.same {fl : Bool} {m m' : DM} {j : JM} {num : Nat} (h : Need fl m j num) (hS : m'.S = m.S) : Need fl m' j num := by
  cases fl
  · exact OwnFree.same h hS
  · exact OthFree.same h hS
theorem new_empty (w : World) {B : Nat} (hB : B ≤ w.heap.size) : (w.alloc (.cells #[] 9)).ownsRow B 9 1 (.slice (some ⟨w.heap.size, 0, none⟩) 0 0) 0 (([] : List ByteArray).map Value.string) :=
  ⟨rfl, .inr ⟨w.heap.size, 0, #[], rfl, hB, (Blk.new w #[] 9).out, by simp, by simp, rfl, rfl⟩⟩
theorem row_src (w : World) (s : ByteArray) : 0 < [s].length → ∃ b o, some (⟨w.heap.size, 0, none⟩ : Addr) = some ⟨b, o, none⟩ ∧ b < (w.alloc (.cells #[.string s] 9)).heap.size ∧ ∀ (j : Nat) y, [s][j]? = some y → (w.alloc (.cells #[.string s] 9)).cell? ⟨b, o + j, none⟩ = some (.string y) := fun _ =>
  ⟨_, 0, rfl, (Blk.new w #[.string s] 9).lt, fun j y hj => by
    cases j with
    | zero => obtain rfl := Option.some.inj hj; exact (Blk.new w #[.string s] 9).cell 0
    | succ j => simp at hj⟩
/-- Texts appended, where the operation stands under a guard that holds. -/
theorem at_appStrsG {ops : Array Oper} {rest : List Oper} {a : Act} {w : World} {Q : Exit → Act → World → Prop} {d : Option Tmp} {ty : TypeId} {ps : String} {af : Array Edge} {gd : Option (Nat × Bool)} {x y : Operand}
    (base : Nat) (v : Value) (n : Nat) (xs l : List ByteArray) (ad : Option Addr) (m c : Nat) (hm : m = l.length) (hown : w.ownsRow base 9 1 v n (xs.map Value.string))
    (hsrc : 0 < l.length → ∃ b o, ad = some ⟨b, o, none⟩ ∧ b < w.heap.size ∧ ∀ (j : Nat) x, l[j]? = some x → w.cell? ⟨b, o + j, none⟩ = some (.string x))
    (hbytes : n + m ≤ 8796093022208) (hbase : base ≤ w.heap.size)
    (hw : Region.wanted (⟨d, .call { callee := .builtin .append, args := #[x, y], argTypes := #[24, 24] }, ty, ps, af, gd⟩ : Oper) (yielded ops a.tmps) = true)
    (hx : a.eval x = v) (hy : a.eval y = .slice ad m c)
    (h : ∀ v' w', w'.ownsRow base 9 1 v' (n + m) ((xs ++ l).map Value.string) → w.grownBy w' v.ownBlock → (v'.ownBlock = v.ownBlock ∨ v'.ownBlock = some w.heap.size) → wpList Tryd.prog ops Q rest (a.put d v') w') :
    wpList Tryd.prog ops Q (⟨d, .call { callee := .builtin .append, args := #[x, y], argTypes := #[24, 24] }, ty, ps, af, gd⟩ :: rest) a w := by
  subst hm
  obtain ⟨h1, h2, h3⟩ := strs_news hsrc
  obtain ⟨v', w', hr, k1, k2, k3⟩ := run_app w base 24 ty 9 _ 1 16 sl_str str_info rfl (by decide) v n (xs.map Value.string) hown ad l.length c (l.map Value.string) (by simp) h1 h2 h3 (by simp [maxLen]; omega) (by omega) hbase
  refine wpList_step fun K hK => ?_
  rw [if_pos hw]
  have hrun : (execOp a.eval (⟨d, .call { callee := .builtin .append, args := #[x, y], argTypes := #[24, 24] }, ty, ps, af, gd⟩ : Oper)).run Tryd.prog w = .ok (.value v') w' := by
    unfold execOp
    simp only [resolve, invoke, builtin, Sem.run_bind, Sem.run_pure, Result.andThen_ok, List.map_toArray, List.map_cons, List.map_nil, hx, hy, hr]
  unfold Oper.wp
  rw [hrun, Oper.upon_value]
  exact hK _ _ (h v' w' (by rw [List.map_append]; exact k1) k2 k3)
theorem alloc_below (w : World) (o : Obj) : Below w.heap.size w (w.alloc o) := (Below.refl _ w).alloc (Nat.le_refl _) o
theorem alloc_size (w : World) (o : Obj) : w.heap.size ≤ (w.alloc o).heap.size := (alloc_below w o).size
theorem src_below {w w' : World} {l : List ByteArray} {a : Option Addr} (h : 0 < l.length → ∃ b o, a = some ⟨b, o, none⟩ ∧ b < w.heap.size ∧ ∀ (j : Nat) x, l[j]? = some x → w.cell? ⟨b, o + j, none⟩ = some (.string x)) (hb : Below w.heap.size w w') :
    0 < l.length → ∃ b o, a = some ⟨b, o, none⟩ ∧ b < w'.heap.size ∧ ∀ (j : Nat) x, l[j]? = some x → w'.cell? ⟨b, o + j, none⟩ = some (.string x) := fun hl => by
  obtain ⟨b, o, h1, h2, h3⟩ := h hl
  exact ⟨b, o, h1, Nat.lt_of_lt_of_le h2 hb.size, fun j x hj => (hb.cell (p := ⟨b, o + j, none⟩) h2).trans (h3 j x hj)⟩
/-- What putting texts and one more together in new memory leaves. -/
theorem app2_below {w w12 w14 : World} {s : ByteArray} {v12 : Value} (hg : (w.alloc (.cells #[] 9)).grownBy w12 (Value.slice (some ⟨w.heap.size, 0, none⟩) 0 0).ownBlock) (hv : v12.ownBlock = (Value.slice (some ⟨w.heap.size, 0, none⟩) 0 0).ownBlock ∨ v12.ownBlock = some (w.alloc (.cells #[] 9)).heap.size)
    (hg2 : (w12.alloc (.cells #[.string s] 9)).grownBy w14 v12.ownBlock) : Below w.heap.size w w14 := by
  have h1 := alloc_below w (.cells #[] 9)
  have h2 : Below w.heap.size w w12 := h1.trans (below_grown hg h1.size (fun k hk => by simp [Value.ownBlock] at hk; omega))
  have h3 := h2.trans ((alloc_below w12 (.cells #[.string s] 9)).mono h2.size)
  refine h3.trans (below_grown hg2 h3.size (fun k hk => ?_))
  rcases hv with e | e
  · rw [hk] at e; simp [Value.ownBlock] at e; omega
  · rw [hk] at e; have := Option.some.inj e; have := h1.size; omega
/-- The same without a word of the disk's laws: what stands in memory. -/
structure JX (w : World) (b mb : Nat) (m : DM) (j : JM) (jb : Nat) (v : Value) (wr : World) : Prop where
  disk : DiskAt wr b mb m
  jo : JAt wr jb b v j
  b0 : w.heap.size ≤ b
  mb0 : w.heap.size ≤ mb
  jb0 : w.heap.size ≤ jb
  v0 : ∀ k, v.ownBlock = some k → w.heap.size ≤ k
  bel : Below w.heap.size w wr
section
variable {w wr wr' : World} {b mb num jb : Nat} {m m' : DM} {j j' : JM} {v v' : Value}
theorem JS.x (h : JS w b mb m j num jb v wr) : JX w b mb m j jb v wr := ⟨h.disk, h.jo, h.b0, h.mb0, h.jb0, h.v0, h.bel⟩
theorem JX.js (h : JX w b mb m j jb v wr) (h1 : Loose m j num) (h2 : m.dead = false) (h3 : m.armed = false) (h4 : j.dead = false) : JS w b mb m j num jb v wr := ⟨h1, h2, h3, h4, h.disk, h.jo, h.b0, h.mb0, h.jb0, h.v0, h.bel⟩
theorem JX.below (h : JX w b mb m j jb v wr) (hb : Below wr.heap.size wr wr') : JX w b mb m j jb v wr' :=
  ⟨h.disk.only (Only.of_below (S := fun _ => False) hb) (fun h => h) (fun h => h), h.jo.grown hb, h.b0, h.mb0, h.jb0, h.v0, h.bel.trans (hb.mono h.bel.size)⟩
theorem JX.young (h : JX w b mb m j jb v wr) : ∀ k, k < w.heap.size → ¬ owned b mb jb v k := fun k hk ho => by
  rcases ho with (e | e) | e | e
  · have := h.b0; omega
  · have := h.mb0; omega
  · have := h.jb0; omega
  · have := h.v0 k e; omega
theorem JX.old (h : JX w b mb m j jb v wr) : ∀ k, owned b mb jb v k → k < wr.heap.size := fun k ho => by
  obtain ⟨h1, h2⟩ := h.disk.lt
  rcases ho with (e | e) | e | e
  · omega
  · omega
  · have := h.jo.blk.lt; omega
  · exact own_lt h.jo.row k e
theorem JX.only {S : Nat → Prop} (h : JX w b mb m j jb v wr) (ho : Only S wr wr') (hS : ∀ k, owned b mb jb v k → ¬ S k) (hn : ∀ k, k < w.heap.size → ¬ S k) : JX w b mb m j jb v wr' :=
  ⟨h.disk.only ho (hS b (.inl (.inl rfl))) (hS mb (.inl (.inr rfl))), h.jo.only ho (hS jb (.inr (.inl rfl))) (fun k hk => hS k (.inr (.inr hk))), h.b0, h.mb0, h.jb0, h.v0, h.bel.trans (ho.below h.bel.size hn)⟩
/-- A call that turns the disk alone. -/
theorem JX.disk_turns (h : JX w b mb m j jb v wr) (hd : DiskAt wr' b mb m') (ho : Only (own2 b mb) wr wr') : JX w b mb m' j jb v wr' := by
  obtain ⟨h1, h2⟩ := h.jo.apart h.disk
  exact ⟨hd, h.jo.only ho h1 h2, h.b0, h.mb0, h.jb0, h.v0, h.bel.trans (ho.below h.bel.size (fun k hk e => h.young k hk (.inl e)))⟩
/-- A call of the journal's. -/
theorem JX.op (h : JX w b mb m j jb v wr) (hd : DiskAt wr' b mb m') (ho : Only (fun k => own2 b mb k ∨ k = jb ∨ v.ownBlock = some k) wr wr') (hj : JAt wr' jb b v' j') (hv : ∀ k, v'.ownBlock = some k → v.ownBlock = some k ∨ wr.heap.size ≤ k) : JX w b mb m' j' jb v' wr' ∧ (∀ k, owned b mb jb v' k → owned b mb jb v k ∨ wr.heap.size ≤ k) := by
  refine ⟨⟨hd, hj, h.b0, h.mb0, h.jb0, (fun k hk => ?_), h.bel.trans (ho.below h.bel.size h.young)⟩, fun k hk => ?_⟩
  · rcases hv k hk with e | e
    · exact h.v0 k e
    · exact Nat.le_trans h.bel.size e
  · rcases hk with e | e | e
    · exact .inl (.inl e)
    · exact .inl (.inr (.inl e))
    · rcases hv k e with e | e
      · exact .inl (.inr (.inr e))
      · exact .inr e
end
end Go.Proofs.YtnplcjcbojjecaaDoor
