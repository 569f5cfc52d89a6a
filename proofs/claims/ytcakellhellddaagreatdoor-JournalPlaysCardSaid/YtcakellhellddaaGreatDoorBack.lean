import Derived.RangeFuncBox
import Derived.RangeFuncNested
import Derived.RangeFuncBound
import Derived.RangeFuncCalls
import Derived.RangeFuncLeaves
import Derived.Shelf.Abstract
import Derived.OwnWalkIn
import Derived.TacticsInMore
import Derived.LoopNIn
import Derived.LoopIn
import Derived.Test.YtcakellhellddaaGreatDoorStrs
import Derived.Test.YtcakellhellddaaGreatDoorMp
set_option linter.unusedSimpArgs false
set_option linter.unusedVariables false
namespace Go.Proofs.YtcakellhellddaaGreatDoor
open Go.RowKit Go.Shelf
attribute [local go_sem] Oper.semAt_some
/-! 'for i, x := range slices.Backward(l)' over texts: its contract, at the wide fence. -/
theorem Only.cell {S : Nat → Prop} {w w' : World} (h : Only S w w') {p : Addr} (hp : p.block < w.heap.size) (hS : ¬ S p.block) : w'.cell? p = w.cell? p := World.cell?_of_block (h.block _ hp hS)
/-- What a round is handed: a place and a text. -/
abbrev BackX := { x : Nat × ByteArray // x.1 ≤ 1000000000 ∧ x.2.size ≤ maxLen }
/-- A list that such a loop goes over. -/
def BackOk (l : List ByteArray) : Prop := l.length ≤ 1000000000 ∧ ∀ i, (l.getD i ByteArray.empty).size ≤ maxLen
def backX (l : List ByteArray) (h : BackOk l) (j : Nat) : BackX := ⟨(l.length - 1 - j, l.getD (l.length - 1 - j) ByteArray.empty), by show l.length - 1 - j ≤ 1000000000; have := h.1; omega, h.2 _⟩
/-- What has come when k rounds are over: from the last one on. -/
def backL (l : List ByteArray) (h : BackOk l) (k : Nat) : List BackX := (List.range k).map (backX l h)
theorem backL_len (l : List ByteArray) (h : BackOk l) (k : Nat) : (backL l h k).length = k := by simp [backL]
theorem backL_succ (l : List ByteArray) (h : BackOk l) (k : Nat) : backL l h (k + 1) = backL l h k ++ [backX l h k] := by simp [backL, List.range_succ]
def encBack (x : BackX) : Array Value := #[.int .i64 (x.1.1 : Int), .string x.1.2]
set_option maxRecDepth 100000 in
set_option maxHeartbeats 1000000 in
theorem back1_in (n : Nat) (hn : 1 ≤ n) (lp Bs b off cap len : Nat) (l : List ByteArray) (hok : BackOk l) (hlen : len = l.length) (hreach : len ≤ 1000000000) (KS : Nat → Prop) (hks1 : ¬ KS Bs) (hks2 : ¬ KS b) (J Jx : List BackX → World → Prop)
    (hY : ∀ pre x W, J pre W → pre.length < len → YieldAt Fence.wide (n - 1) Tryz.prog lp #[.int .i64 (x.1.1 : Int), .string x.1.2] W fun e W' =>
      (e = .returned (.bool true) ∧ J (pre ++ [x]) W' ∧ Only KS W W') ∨ (e = .returned (.bool false) ∧ Jx (pre ++ [x]) W'))
    (W : World) (hBs : W.cell? ⟨Bs, 0, none⟩ = some (.slice (some ⟨b, off, none⟩) len cap)) (hb : b < W.heap.size) (hc : ∀ j, j < len → W.cell? ⟨b, off + j, none⟩ = some (.string (l.getD j ByteArray.empty))) (h0 : J [] W) :
    CallsIn Fence.wide n Tryz.prog 75 #[.func (.yield lp) #[] #[], .pointer (some ⟨Bs, 0, none⟩)] W fun e W' => (∃ v, e = .returned v) ∧
      ((∃ ys, ys = backL l hok len ∧ J ys W') ∨ (∃ pre, (∃ k, k ≤ len ∧ pre = backL l hok k) ∧ Jx pre W')) := by
  have hBl : Bs < W.heap.size := World.block_lt_of_cell? W ⟨Bs, 0, none⟩ hBs
  have HL := Lib.hid hlen
  have HC := Lib.hid hc
  clear hlen hc
  refine callsIn_of_wp Tryz.func75 rfl trivial ?_ rfl
  simp only [Tryz.ntmps75, List.size_toArray, List.length_cons, List.length_nil, Nat.reduceAdd, Nat.reduceSub, Array.replicate_succ, Array.replicate_zero, List.push_toArray, List.append_toArray, List.nil_append, List.cons_append]
  gi_wp2
  gi_loopw [3] (fun i wr => ∃ k : Nat, k ≤ len ∧ i = .int .i64 ((len : Int) - 1 - k) ∧ J (backL l hok k) wr ∧ Only KS W wr)
    (fun i _ => (intOf i + 1).toNat)
  case atStart => exact ⟨0, Nat.zero_le _, by simp, h0, Only.refl _ _⟩
  case round =>
    obtain ⟨k, hk, rfl, hJs, hO⟩ := hrel
    have hBs' : wr.cell? ⟨Bs, 0, none⟩ = some (.slice (some ⟨b, off, none⟩) len cap) := (hO.cell (p := ⟨Bs, 0, none⟩) hBl hks1).trans hBs
    by_cases hlt : k < len
    · obtain ⟨i, hi⟩ : ∃ i, i = len - 1 - k := ⟨_, rfl⟩
      have hix : (len : Int) - 1 - (k : Int) = (i : Int) := by omega
      obtain ⟨x, hx⟩ : ∃ x, x = l.getD i ByteArray.empty := ⟨_, rfl⟩
      have hcx : wr.cell? ⟨b, off + i, none⟩ = some (.string x) := by rw [hx]; exact (hO.cell (p := ⟨b, off + i, none⟩) hb hks2).trans (HC.out i (by omega))
      obtain ⟨fn, tmps, assign, body, hy, hR⟩ := hY _ (backX l hok k) wr hJs (by rw [backL_len]; exact hlt)
      have e1 : (backX l hok k).1.1 = i := by show l.length - 1 - k = i; have := HL.out; omega
      have e2 : (backX l hok k).1.2 = x := by show l.getD (l.length - 1 - k) ByteArray.empty = x; rw [hx, show l.length - 1 - k = i by have := HL.out; omega]
      rw [e1, e2] at hy
      clear e1 e2
      rw [hix]
      have hil : (i : Int) < (len : Int) := by omega
      have HI := Lib.hid hi
      have HX := Lib.hid hx
      clear hi hx hix
      gi_wp2
      refine hR.mono ?_
      rintro e W3 (⟨rfl, hJ3, hk3⟩ | ⟨rfl, hJx3⟩)
      · gi_wp2
        go_roundw
        case rel =>
          refine ⟨k + 1, by omega, ?_, by rw [backL_succ]; exact hJ3, hO.trans hk3⟩
          have hi9 := HI.out
          congr 1
          omega
        case measure =>
          simp [intOf]
      · gi_wp2
        refine bodyPost_ret (results_none rfl _ _ _) rfl ?_
        exact ⟨⟨_, rfl⟩, .inr ⟨_, ⟨k + 1, by omega, by rw [backL_succ]⟩, hJx3⟩⟩
    · obtain rfl : k = len := by omega
      gi_wp2
      go_end0
      exact ⟨⟨_, rfl⟩, .inl ⟨_, rfl, hJs⟩⟩
set_option maxRecDepth 100000 in
set_option maxHeartbeats 1000000 in
theorem back1_none (n lp Bs c : Nat) (a : Option Addr) (J : List BackX → World → Prop) (W : World) (hBs : W.cell? ⟨Bs, 0, none⟩ = some (.slice a 0 c)) (h0 : J [] W) :
    CallsIn Fence.wide n Tryz.prog 75 #[.func (.yield lp) #[] #[], .pointer (some ⟨Bs, 0, none⟩)] W fun e W' => (∃ v, e = .returned v) ∧ J [] W' := by
  refine callsIn_of_wp Tryz.func75 rfl trivial ?_ rfl
  simp only [Tryz.ntmps75, List.size_toArray, List.length_cons, List.length_nil, Nat.reduceAdd, Nat.reduceSub, Array.replicate_succ, Array.replicate_zero, List.push_toArray, List.append_toArray, List.nil_append, List.cons_append]
  gi_wp2
  gi_loopw [3] (fun i wr => i = .int .i64 (-1) ∧ J [] wr) (fun _ _ => 0)
  case atStart => exact ⟨rfl, h0⟩
  case round =>
    obtain ⟨rfl, hJ⟩ := hrel
    gi_wp2
    go_end0
    exact ⟨⟨_, rfl⟩, hJ⟩
/-- The contract of the iterator that slices.Backward hands back. -/
theorem back_stops (n : Nat) (hn : 1 ≤ n) (Bs : Nat) (v : Value) (l : List ByteArray) (hok : BackOk l) (KS : Nat → Prop) (w : World) (hBs : w.cell? ⟨Bs, 0, none⟩ = some v) (hl : StrsAt w v l) (hk1 : ¬ KS Bs)
    (hk2 : ∀ b o n c, v = .slice (some ⟨b, o, none⟩) n c → 0 < l.length → ¬ KS b) :
    SeqStopsK Fence.wide n Tryz.prog 75 #[.pointer (some ⟨Bs, 0, none⟩)] encBack (Only KS) (fun ys => ys = backL l hok l.length) (fun pre => ∃ k, k ≤ l.length ∧ pre = backL l hok k) l.length w := fun lp J Jx W hW _ _ hY h0 => by
  have hBl : Bs < w.heap.size := World.block_lt_of_cell? w ⟨Bs, 0, none⟩ hBs
  have hc' := (hW.cell (p := ⟨Bs, 0, none⟩) hBl).trans hBs
  obtain ⟨a, c, rfl, h1, h2, h3⟩ := hl
  by_cases h0l : 0 < l.length
  · obtain ⟨b, o, rfl, hb, hcs⟩ := h3 h0l
    refine back1_in n hn lp Bs b o c l.length l hok rfl hok.1 KS hk1 (hk2 b o _ _ rfl h0l) J Jx hY W hc' (Nat.lt_of_lt_of_le hb hW.size) (fun j hj => ?_) h0
    refine (hW.cell (p := ⟨b, o + j, none⟩) hb).trans (hcs j _ ?_)
    rw [List.getD_eq_getElem?_getD, List.getElem?_eq_getElem hj]; rfl
  · have hl0 : l.length = 0 := by omega
    rw [hl0] at hc'
    refine (back1_none n lp Bs c a J W hc' h0).mono fun e W' ⟨he, hj⟩ => ⟨he, .inl ⟨_, rfl, ?_⟩⟩
    have : backL l hok l.length = [] := List.length_eq_zero_iff.1 (by rw [backL_len]; exact hl0)
    rw [this]; exact hj
theorem back_any (ad : Option Addr) (n c : Nat) (w : World) : Calls Tryz.prog 64 #[.slice ad n c] w fun e w' => e = .returned (.func (.func 75) #[] #[.pointer (some ⟨w.heap.size, 0, none⟩)]) ∧ w' = w.alloc (.cells #[.slice ad n c] 50) := by
  have hmf : ∀ (fn : Fn) (first cap : Array Value) (w : World), (Instr.makeFunc fn first cap).run Tryz.prog w = .ok (.func fn first cap) w := fun _ _ _ _ => rfl
  go_enter Tryz.func64, Tryz.ntmps64
  go_wp2
  go_ret
  exact ⟨rfl, rfl⟩
end Go.Proofs.YtcakellhellddaaGreatDoor
