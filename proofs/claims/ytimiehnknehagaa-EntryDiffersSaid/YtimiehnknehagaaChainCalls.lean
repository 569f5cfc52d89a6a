import Derived.Test.YtimiehnknehagaaChainFit
set_option linter.unusedSimpArgs false
set_option linter.unusedVariables false
namespace Go.Proofs.Ytimiehnknehagaa
open Go.RowKit
/-! Diff, Add and Own at small states, their answers as rows. -/
theorem buck_key {l : List LoanM} {k : Int × Int} (h : (buckOf l k).isSome = true) : (∃ x ∈ l, x.id = k.1) ∧ 1 ≤ k.2 ∧ k.2 ≤ 3 := by
  unfold buckOf at h
  cases hq : l.find? (fun x => x.id == k.1) with
  | none => rw [hq] at h; cases h
  | some x =>
    rw [hq] at h
    refine ⟨⟨x, List.mem_of_find?_eq_some hq, by simpa using List.find?_some hq⟩, ?_⟩
    dsimp only at h
    split at h
    · omega
    · split at h
      · omega
      · split at h
        · omega
        · cases h
theorem in64L.three {x : LoanM} (h : in64L x) : in64 x.principal ∧ in64 x.interest ∧ in64 x.fees := ⟨h.2.1, h.2.2.1, h.2.2.2.2.1⟩
theorem told_in64 {a b : List LoanM} (ia : ∀ x ∈ a, in64L x) (ib : ∀ x ∈ b, in64L x) {es : List Ent} (h : IsTold (diffOf (buckOf a) (buckOf b)) es) : ∀ x ∈ es, in64E x := fun x hx => by
  obtain ⟨h1, h2⟩ := (h.2 x).1 hx
  unfold diffOf at h1
  split at h1
  · rename_i hc
    obtain ⟨h3, h4⟩ := hc
    have h5 := Option.some.inj h1
    rw [h5] at h4
    have hk : in64 (keyE x).1 ∧ 1 ≤ (keyE x).2 ∧ (keyE x).2 ≤ 3 := by
      rcases h3 with h3 | h3
      · obtain ⟨⟨y, hy, e⟩, q⟩ := buck_key h3
        exact ⟨by rw [← e]; exact (ia y hy).1, q⟩
      · obtain ⟨⟨y, hy, e⟩, q⟩ := buck_key h3
        exact ⟨by rw [← e]; exact (ib y hy).1, q⟩
    refine ⟨hk.1, ?_, h4⟩
    have := hk.2
    unfold keyE at this
    unfold in64; dsimp only at this; omega
  · cases h1
def DsPost (la lb : List LoanM) (w : World) (e : Ending) (w' : World) : Prop :=
  ∃ v es, e = .returned v ∧ IsTold (diffOf (buckOf la) (buckOf lb)) es ∧ RowsAt encE 3 w' v es ∧ (∀ x ∈ es, in64E x) ∧ (∀ x ∈ es, smallE 1000000000000000000 x) ∧ es.length ≤ 600 ∧ Below w.heap.size w w'
theorem ds_any (va vb : Value) (sa sb : StateM) (w : World) (ha : StAt w va sa) (hb : StAt w vb sb) (na : sa.loans.length ≤ 100) (nb : sb.loans.length ≤ 100) (ia : ∀ x ∈ sa.loans, in64L x) (ib : ∀ x ∈ sb.loans, in64L x)
    (ma : ∀ x ∈ sa.loans, smallLoan x) (mb : ∀ x ∈ sb.loans, smallLoan x) : Calls Try.prog 11 #[va, vb] w (DsPost sa.loans sb.loans w) := by
  refine (diff_any va vb sa sb (by omega) (by omega) w ha hb (fun x hx => (ia x hx).three) (fun x hx => (ib x hx).three)).mono ?_
  rintro e w1 ⟨v, es, rfl, ht, hl, ho, hb1⟩
  exact ⟨v, es, rfl, ht, RowsAt.own encE_len ho rfl (by omega), told_in64 ia ib ht, small_told ma mb ht, by omega, hb1⟩
def AsPost (a b : List Ent) (w : World) (e : Ending) (w' : World) : Prop :=
  ∃ v es, e = .returned (.tuple #[v, .int .i64 0]) ∧ IsTold (sumM (a ++ b)) es ∧ RowsAt encE 3 w' v es ∧ es.length ≤ a.length + b.length ∧ Below w.heap.size w w'
theorem tell_len (M : Int × Int → Option Int) (L : List (Int × Int)) : (tellL M L).length ≤ L.length := List.length_filterMap_le _ _
theorem as_any (va vb : Value) (a b : List Ent) (w : World) (ha : RowsAt encE 3 w va a) (hb : RowsAt encE 3 w vb b) (na : a.length ≤ 600) (nb : b.length ≤ 600) (ia : ∀ x ∈ a, in64E x) (ib : ∀ x ∈ b, in64E x)
    (pa : a.Pairwise (fun x y => ltK (keyE x) (keyE y))) (pb : b.Pairwise (fun x y => ltK (keyE x) (keyE y))) (ma : ∀ x ∈ a, smallE 1000000000000000000 x) (mb : ∀ x ∈ b, smallE 1000000000000000000 x) :
    Calls Try.prog 16 #[va, vb] w (AsPost a b w) := by
  refine (add_any va vb a b (by omega) w ha hb ia ib).mono ?_
  intro e w1 hp
  unfold AddPost at hp
  rw [addL_two (B := 1000000000000000000) (by decide) (by decide) pa pb ma mb] at hp
  obtain ⟨v, L, rfl, h1, h2, ho, hb1⟩ := hp
  have h3 := tell_len (sumM (a ++ b)) L
  rw [List.length_append] at h2
  exact ⟨v, _, rfl, isTold_tell h1, RowsAt.own encE_len ho rfl (by omega), by omega, hb1⟩
def OsPost (l : List Ent) (w : World) (e : Ending) (w' : World) : Prop := ∃ v, e = .returned v ∧ RowsAt encE 3 w' v l ∧ Below w.heap.size w w'
theorem os_any (va : Value) (l : List Ent) (hl : l.length ≤ 1000000) (w : World) (ha : RowsAt encE 3 w va l) : Calls Try.prog 10 #[va] w (OsPost l w) := by
  refine (own_any va l hl w ha).mono ?_
  rintro e w1 ⟨v, rfl, ho, hb⟩
  exact ⟨v, rfl, RowsAt.own encE_len ho rfl (by omega), hb⟩
theorem Blk.st {w : World} {b : Nat} {s : StateM} {vl vb : Value} {t : TypeId} (h : Blk w b (stCells s vl vb) t) : w.cell? ⟨b, 0, none⟩ = some (.int .i64 s.day) ∧ w.cell? ⟨b, 1, none⟩ = some (vl) ∧ w.cell? ⟨b, 2, none⟩ = some (.int .i64 s.plan) ∧ w.cell? ⟨b, 3, none⟩ = some (.int .i64 s.since) ∧ w.cell? ⟨b, 4, none⟩ = some (.int .i64 s.income) ∧ w.cell? ⟨b, 5, none⟩ = some (.int .i64 s.family) ∧ w.cell? ⟨b, 6, none⟩ = some (vb) ∧ w.cell? ⟨b, 7, none⟩ = some (.int .i64 s.ahead) ∧ w.cell? ⟨b, 8, none⟩ = some (.int .i64 s.pfees) ∧ w.cell? ⟨b, 9, none⟩ = some (.int .i64 s.pinterest) ∧ w.cell? ⟨b, 10, none⟩ = some (.int .i64 s.pprincipal) ∧ w.cell? ⟨b, 11, none⟩ = some (.int .i64 s.prefund) ∧ w.cell? ⟨b, 12, none⟩ = some (.int .i64 s.written) :=
  ⟨h.cell 0, h.cell 1, h.cell 2, h.cell 3, h.cell 4, h.cell 5, h.cell 6, h.cell 7, h.cell 8, h.cell 9, h.cell 10, h.cell 11, h.cell 12⟩
end Go.Proofs.Ytimiehnknehagaa
