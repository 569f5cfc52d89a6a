import Derived.Test.YtimiehnknehagaaLargeP
import Derived.Test.YtimiehnknehagaaRd
set_option linter.unusedSimpArgs false
set_option linter.unusedVariables false
namespace Go.Proofs.Ytimiehnknehagaa
open Go.RowKit
/-! The kinds of loans, bills and states that come in. -/
def kIn : Kd Try.prog 3 Int := Kd.int Try.underlying3 (by kernel_rfl)
def kI6 : Kd Try.prog 2 Int := Kd.int Try.underlying2 (by kernel_rfl)
def kBo : Kd Try.prog 4 Bool := Kd.bool Try.underlying4 (by kernel_rfl)
def kIns : Kd Try.prog 50 (List Int) := Kd.slice Try.underlying50 (by kernel_rfl) kIn (by decide)
abbrev LoanD := Int × Int × Int × Int × Int × Int × Bool × Int × Int × Int × Int × Int × Int × Unit
abbrev BillD := Int × Int × Int × Int × Int × List Int × Unit
abbrev PartsD := Int × Int × Int × Int × Unit
abbrev StateD := Int × List LoanD × Int × Int × Int × Int × List BillD × Int × PartsD × Int × Unit
def kLoan : Kd Try.prog 58 LoanD := Kd.struct Try.underlying58 (Fk.cons kIn (Fk.cons kI6 (Fk.cons kI6 (Fk.cons kI6 (Fk.cons kI6 (Fk.cons kIn (Fk.cons kBo (Fk.cons kIn (Fk.cons kIn (Fk.cons kIn (Fk.cons kI6 (Fk.cons kI6 (Fk.cons kIn Fk.nil))))))))))))) 13 (by kernel_rfl)
def kBill : Kd Try.prog 56 BillD := Kd.struct Try.underlying56 (Fk.cons kIn (Fk.cons kI6 (Fk.cons kI6 (Fk.cons kIn (Fk.cons kIn (Fk.cons kIns Fk.nil)))))) 6 (by kernel_rfl)
def kLoans : Kd Try.prog 22 (List LoanD) := Kd.slice Try.underlying22 (by kernel_rfl) kLoan (by decide)
def kBills : Kd Try.prog 23 (List BillD) := Kd.slice Try.underlying23 (by kernel_rfl) kBill (by decide)
def kParts : Kd Try.prog 25 PartsD := Kd.struct Try.underlying25 (Fk.cons kI6 (Fk.cons kI6 (Fk.cons kI6 (Fk.cons kI6 Fk.nil)))) 4 (by kernel_rfl)
def kState : Kd Try.prog 27 StateD := Kd.struct Try.underlying27 (Fk.cons kIn (Fk.cons kLoans (Fk.cons kIn (Fk.cons kIn (Fk.cons kI6 (Fk.cons kIn (Fk.cons kBills (Fk.cons kI6 (Fk.cons kParts (Fk.cons kI6 Fk.nil)))))))))) 13 (by kernel_rfl)
theorem in64_wf {n : Int} (h : (Lit.int .i64 n).wf = true) : in64 n := by
  simpa [in64, Lit.wf, IntKind.min, IntKind.max, IntKind.signed, IntKind.bits] using h
def loanOf : LoanD → LoanM
  | (a, b, c, d, e, f, g, h, i, j, k, l, m, _) => ⟨a, b, c, d, e, f, g, h, i, j, k, l, m⟩
/-- Every number of a loan is one of Go's. -/
def in64L (x : LoanM) : Prop := in64 x.id ∧ in64 x.principal ∧ in64 x.interest ∧ in64 x.subsidy ∧ in64 x.fees ∧ in64 x.ppm ∧ in64 x.status ∧ in64 x.closed ∧ in64 x.entered ∧ in64 x.level ∧ in64 x.far ∧ in64 x.count
theorem kLoan_cells {w : World} {x : LoanD} {cs : List Value} (h : kLoan.R w x cs) : cs = encLoan (loanOf x) ∧ in64L (loanOf x) := by
  obtain ⟨a, b, c, d, e, f, g, h', i, j, k, l, m, u⟩ := x
  obtain ⟨hl, ⟨h1, w1⟩, ⟨h2, w2⟩, ⟨h3, w3⟩, ⟨h4, w4⟩, ⟨h5, w5⟩, ⟨h6, w6⟩, h7, ⟨h8, w8⟩, ⟨h9, w9⟩, ⟨h10, w10⟩, ⟨h11, w11⟩, ⟨h12, w12⟩, ⟨h13, w13⟩, _⟩ := h
  match cs, hl with
  | [c0, c1, c2, c3, c4, c5, c6, c7, c8, c9, c10, c11, c12], _ =>
    simp [kIn, kI6, kBo, Kd.int, Kd.bool] at h1 h2 h3 h4 h5 h6 h7 h8 h9 h10 h11 h12 h13
    subst h1 h2 h3 h4 h5 h6 h7 h8 h9 h10 h11 h12 h13
    exact ⟨rfl, in64_wf w1, in64_wf w2, in64_wf w3, in64_wf w4, in64_wf w5, in64_wf w6, in64_wf w8, in64_wf w9, in64_wf w10, in64_wf w11, in64_wf w12, in64_wf w13⟩
/-- A slice that came in, as rows. -/
theorem rows_in {e : TypeId} {α β : Type} {K : Kd Try.prog e α} {enc : β → List Value} {k : Nat} (hkn : K.n = k) (f : α → β) (C : β → Prop) (hk0 : 0 < k) (hlen : ∀ x, (enc x).length = k) {w : World} {l : List α} {v : Value}
    (hc : ∀ x cs, K.R w x cs → cs = enc (f x) ∧ C (f x)) (h : SlR K w l v) : RowsAt enc k w v (l.map f) ∧ ∀ x ∈ l.map f, C x := by
  obtain ⟨ad, cap, h1, h2, h3, h4, h5⟩ := h
  have hall : ∀ (i : Nat) x, l[i]? = some x → ∃ b o, ad = some ⟨b, o, none⟩ ∧ C (f x) ∧ ∀ (j : Nat) u, (enc (f x))[j]? = some u → w.cell? ⟨b, o + i * k + j, none⟩ = some u := fun i x hi => by
    obtain ⟨b, o, cs, e1, e2, e3, e4⟩ := h5 i x hi
    obtain ⟨rfl, w1⟩ := hc x cs e4
    rw [hkn] at e3
    exact ⟨b, o, e1, w1, fun j u hj => by
      obtain ⟨hj1, hj2⟩ := List.getElem?_eq_some_iff.1 hj
      exact (e3 j hj1).trans hj⟩
  refine ⟨⟨ad, cap, by rw [List.length_map]; exact h1, by rw [List.length_map]; exact h2, by rw [List.length_map]; unfold maxLen at h3; omega, fun hl => ?_⟩, fun x hx => ?_⟩
  · rw [List.length_map] at hl
    obtain ⟨b, o, e1, _, e3⟩ := hall 0 l[0] (List.getElem?_eq_getElem hl)
    have h0 : 0 < (enc (f l[0])).length := by rw [hlen]; exact hk0
    refine ⟨b, o, e1, World.block_lt_of_cell? w _ (e3 0 _ (List.getElem?_eq_getElem h0)), fun i x hi j u hj => ?_⟩
    rw [List.getElem?_map] at hi
    obtain ⟨y, hy, rfl⟩ := Option.map_eq_some_iff.1 hi
    obtain ⟨b2, o2, f1, _, f3⟩ := hall i y hy
    rw [e1] at f1
    injection f1 with f1
    injection f1 with q1 q2 _
    subst q1 q2
    exact f3 j u hj
  · obtain ⟨y, hy, rfl⟩ := List.mem_map.1 hx
    obtain ⟨i, hi, e⟩ := List.getElem_of_mem hy
    obtain ⟨_, _, _, h9, _⟩ := hall i y (by rw [List.getElem?_eq_getElem hi, e])
    exact h9
theorem loans_in {w : World} {l : List LoanD} {v : Value} (h : SlR kLoan w l v) : RowsAt encLoan 13 w v (l.map loanOf) ∧ ∀ x ∈ l.map loanOf, in64L x :=
  rows_in rfl loanOf in64L (by decide) encLoan_len (fun _ _ => kLoan_cells) h
theorem ints_in {w : World} {l : List Int} {v : Value} (h : SlR kIn w l v) : RowsAt encI 1 w v l ∧ ∀ x ∈ l, in64 x := by
  have := rows_in (K := kIn) (enc := encI) rfl id in64 (by decide) encI_len (fun x cs h => by
    obtain ⟨h1, h2⟩ := h
    subst h1
    exact ⟨rfl, in64_wf h2⟩) h
  rwa [List.map_id] at this
def billOf : BillD → BillM
  | (a, b, c, d, e, f, _) => ⟨a, b, c, d, e, f⟩
theorem kBill_cells {w : World} {x : BillD} {cs : List Value} (h : kBill.R w x cs) : ∃ v, cs = encBill (billOf x, v) ∧ RowsAt encI 1 w v (billOf x).loans := by
  obtain ⟨a, b, c, d, e, f, u⟩ := x
  obtain ⟨hl, ⟨h1, w1⟩, ⟨h2, w2⟩, ⟨h3, w3⟩, ⟨h4, w4⟩, ⟨h5, w5⟩, ⟨v, h6, w6⟩, _⟩ := h
  match cs, hl with
  | [c0, c1, c2, c3, c4, c5], _ =>
    simp [kIn, kI6, kIns, Kd.int, Kd.slice] at h1 h2 h3 h4 h5 h6
    subst h1 h2 h3 h4 h5 h6
    exact ⟨_, rfl, (ints_in w6).1⟩
theorem bills_in {w : World} {l : List BillD} {v : Value} (h : SlR kBill w l v) : BillsAt w v (l.map billOf) := by
  obtain ⟨ad, cap, h1, h2, h3, h4, h5⟩ := h
  have hall : ∀ i : Nat, ∃ u : Value, ∀ x, l[i]? = some x → RowsAt encI 1 w u (billOf x).loans ∧ ∃ b o, ad = some ⟨b, o, none⟩ ∧ ∀ (j : Nat) t, (encBill (billOf x, u))[j]? = some t → w.cell? ⟨b, o + i * 6 + j, none⟩ = some t := fun i => by
    cases hi : l[i]? with
    | none => exact ⟨.slice none 0 0, fun x hx => by cases hx⟩
    | some x =>
      obtain ⟨b, o, cs, e1, e2, e3, e4⟩ := h5 i x hi
      obtain ⟨u, rfl, hr⟩ := kBill_cells e4
      refine ⟨u, fun y hy => ?_⟩
      obtain rfl := Option.some.inj hy
      exact ⟨hr, b, o, e1, fun j t hj => by
        obtain ⟨hj1, hj2⟩ := List.getElem?_eq_some_iff.1 hj
        exact (e3 j hj1).trans hj⟩
  obtain ⟨g, hg⟩ := Classical.axiomOfChoice hall
  have hget : ∀ i : Nat, (l.zipIdx.map fun p => (billOf p.1, g p.2))[i]? = (l[i]?).map fun x => (billOf x, g i) := fun i => by
    simp [List.getElem?_zipIdx]
    cases l[i]? <;> simp
  have hlen : (l.zipIdx.map fun p => (billOf p.1, g p.2)).length = l.length := by simp
  refine ⟨l.zipIdx.map fun p => (billOf p.1, g p.2), ?_, ⟨ad, cap, by rw [hlen]; exact h1, by rw [hlen]; exact h2, by rw [hlen]; unfold maxLen at h3; omega, fun hl => ?_⟩, fun x hx => ?_⟩
  · apply List.ext_getElem?
    intro i
    rw [List.getElem?_map, hget, List.getElem?_map]
    cases l[i]? <;> rfl
  · rw [hlen] at hl
    obtain ⟨_, b, o, e1, e3⟩ := hg 0 l[0] (List.getElem?_eq_getElem hl)
    refine ⟨b, o, e1, World.block_lt_of_cell? w _ (e3 0 _ rfl), fun i x hi j u hj => ?_⟩
    rw [hget] at hi
    obtain ⟨y, hy, rfl⟩ := Option.map_eq_some_iff.1 hi
    obtain ⟨_, b2, o2, f1, f3⟩ := hg i y hy
    rw [e1] at f1
    injection f1 with f1
    injection f1 with q1 q2 _
    subst q1 q2
    exact f3 j u hj
  · obtain ⟨i, hi, e⟩ := List.getElem_of_mem hx
    have h9 : (l.zipIdx.map fun p => (billOf p.1, g p.2))[i]? = some x := by rw [List.getElem?_eq_getElem hi, e]
    rw [hget] at h9
    obtain ⟨y, hy, rfl⟩ := Option.map_eq_some_iff.1 h9
    exact (hg i y hy).1
def stateOf : StateD → StateM
  | (d, ls, p, s, i, f, bs, a, (q1, q2, q3, q4, _), wr, _) => ⟨d, ls.map loanOf, p, s, i, f, bs.map billOf, a, q1, q2, q3, q4, wr⟩
theorem state_in {w : World} {x : StateD} {cs : Array Value} (h : kState.R w x cs.toList) : StAt w (.agg cs) (stateOf x) ∧ ∀ y ∈ (stateOf x).loans, in64L y := by
  obtain ⟨d, ls, p, s, i, f, bs, a, ⟨q1, q2, q3, q4, _⟩, wr, _⟩ := x
  obtain ⟨cs⟩ := cs
  obtain ⟨hl, ⟨h1, w1⟩, ⟨vl, h2, w2⟩, ⟨h3, w3⟩, ⟨h4, w4⟩, ⟨h5, w5⟩, ⟨h6, w6⟩, ⟨vb, h7, w7⟩, ⟨h8, w8⟩, ⟨hp, ⟨h9, w9⟩, ⟨h10, w10⟩, ⟨h11, w11⟩, ⟨h12, w12⟩, _⟩, ⟨h13, w13⟩, _⟩ := h
  match cs, hl with
  | [c0, c1, c2, c3, c4, c5, c6, c7, c8, c9, c10, c11, c12], _ =>
    simp [kIn, kI6, kLoans, kBills, kParts, Kd.int, Kd.slice, Kd.struct] at h1 h2 h3 h4 h5 h6 h7 h8 h9 h10 h11 h12 h13
    subst h1 h2 h3 h4 h5 h6 h7 h8 h9 h10 h11 h12 h13
    exact ⟨⟨_, _, rfl, (loans_in w2).1, bills_in w7⟩, (loans_in w2).2⟩
end Go.Proofs.Ytimiehnknehagaa
