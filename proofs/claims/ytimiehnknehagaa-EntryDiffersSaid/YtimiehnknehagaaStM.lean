import Derived.Test.YtimiehnknehagaaRowsK
set_option linter.unusedSimpArgs false
set_option linter.unusedVariables false
namespace Go.Proofs.Ytimiehnknehagaa
open Go.RowKit
/-! Loans, bills and states as data, and as cells. -/
structure LoanM where
  id : Int
  principal : Int
  interest : Int
  subsidy : Int
  fees : Int
  ppm : Int
  subs : Bool
  status : Int
  closed : Int
  entered : Int
  level : Int
  far : Int
  count : Int
deriving DecidableEq, Inhabited
def encLoan (l : LoanM) : List Value := [.int .i64 l.id, .int .i64 l.principal, .int .i64 l.interest, .int .i64 l.subsidy, .int .i64 l.fees, .int .i64 l.ppm, .bool l.subs, .int .i64 l.status, .int .i64 l.closed, .int .i64 l.entered, .int .i64 l.level, .int .i64 l.far, .int .i64 l.count]
theorem encLoan_len (l : LoanM) : (encLoan l).length = 13 := rfl
theorem encLoan_one (l : LoanM) : ∀ v ∈ encLoan l, v.oneCell' = true := by
  intro v hv
  simp [encLoan] at hv
  rcases hv with rfl | rfl | rfl | rfl | rfl | rfl | rfl | rfl | rfl | rfl | rfl | rfl | rfl <;> rfl
structure BillM where
  month : Int
  amount : Int
  left : Int
  covered : Int
  plan : Int
  loans : List Int
deriving DecidableEq, Inhabited
def encBill (x : BillM × Value) : List Value := [.int .i64 x.1.month, .int .i64 x.1.amount, .int .i64 x.1.left, .int .i64 x.1.covered, .int .i64 x.1.plan, x.2]
theorem encBill_len (x : BillM × Value) : (encBill x).length = 6 := rfl
def encI (n : Int) : List Value := [.int .i64 n]
theorem encI_len (n : Int) : (encI n).length = 1 := rfl
theorem encI_one (n : Int) : ∀ v ∈ encI n, v.oneCell' = true := by
  intro v hv
  simp [encI] at hv
  subst hv; rfl
/-- A slice of bills. -/
def BillsAt (w : World) (v : Value) (l : List BillM) : Prop :=
  ∃ vs : List (BillM × Value), vs.map (·.1) = l ∧ RowsAt encBill 6 w v vs ∧ ∀ x ∈ vs, RowsAt encI 1 w x.2 x.1.loans
theorem BillsAt.below {w w' : World} {v : Value} {l : List BillM} (h : BillsAt w v l) (hb : Below w.heap.size w w') : BillsAt w' v l := by
  obtain ⟨vs, h1, h2, h3⟩ := h
  exact ⟨vs, h1, h2.below hb, fun x hx => (h3 x hx).below hb⟩
structure StateM where
  day : Int
  loans : List LoanM
  plan : Int
  since : Int
  income : Int
  family : Int
  bills : List BillM
  ahead : Int
  pfees : Int
  pinterest : Int
  pprincipal : Int
  prefund : Int
  written : Int
deriving DecidableEq, Inhabited
/-- A state's cells, its two slices at values. -/
def stCells (s : StateM) (vl vb : Value) : Array Value :=
  #[.int .i64 s.day, vl, .int .i64 s.plan, .int .i64 s.since, .int .i64 s.income, .int .i64 s.family, vb, .int .i64 s.ahead, .int .i64 s.pfees, .int .i64 s.pinterest, .int .i64 s.pprincipal, .int .i64 s.prefund, .int .i64 s.written]
structure StAt (w : World) (v : Value) (s : StateM) : Prop where
  cells : ∃ vl vb, v = .agg (stCells s vl vb) ∧ RowsAt encLoan 13 w vl s.loans ∧ BillsAt w vb s.bills
theorem StAt.below {w w' : World} {v : Value} {s : StateM} (h : StAt w v s) (hb : Below w.heap.size w w') : StAt w' v s := by
  obtain ⟨vl, vb, h1, h2, h3⟩ := h.cells
  exact ⟨vl, vb, h1, h2.below hb, h3.below hb⟩
theorem loan_cell {w : World} {ad : Option Addr} {l : List LoanM} (h : SrcAt encLoan 13 w ad l) (i : Nat) (x : LoanM) (hx : l[i]? = some x) : ∃ b o, ad = some ⟨b, o, none⟩ ∧ b < w.heap.size ∧
    ∀ (j : Nat) u, (encLoan x)[j]? = some u → w.cell? ⟨b, o + i * 13 + j, none⟩ = some u := by
  obtain ⟨b, o, rfl, hb, hc⟩ := h (by have := (List.getElem?_eq_some_iff.1 hx).1; omega)
  exact ⟨b, o, rfl, hb, hc i x hx⟩
end Go.Proofs.Ytimiehnknehagaa
