import Derived.WalkKit
set_option linter.unusedSimpArgs false
set_option linter.unusedVariables false
namespace Go.Proofs.YtcakellhellddaaGreatDoor
/-! Sectors that may be written in part, as plain data. -/
def zs : ByteArray := ⟨(List.replicate 256 0).toArray⟩
structure DM where
  S : List ByteArray
  dead : Bool
  armed : Bool
  left : Int
  part : Nat
  writes : Int
def dNew (n : Nat) : DM := ⟨List.replicate n zs, false, false, 0, 0, 0⟩
def DM.at (m : DM) (i : Nat) : ByteArray := m.S.getD i ByteArray.empty
def DM.good (m : DM) (i : Int) : Bool := decide (0 ≤ i ∧ i < m.S.length)
/-- 0: it may be read; 74: dead; 1: no such sector. -/
def DM.may (m : DM) (i : Int) : Int := if m.dead then 74 else if m.good i then 0 else 1
def DM.read (m : DM) (i : Int) : ByteArray × Int := if m.may i = 0 then (m.at i.toNat, 0) else (ByteArray.empty, m.may i)
def torn (p : Nat) (s t : ByteArray) : ByteArray := s.extract 0 p ++ t.extract p t.size
def DM.cuts (m : DM) : Bool := m.armed && decide (m.left = 0)
def DM.write (m : DM) (i : Int) (s : ByteArray) : DM × Int :=
  if m.may i ≠ 0 then (m, m.may i)
  else if s.size ≠ 256 then (m, 1)
  else if m.cuts then ({ m with S := m.S.set i.toNat (torn m.part s (m.at i.toNat)), dead := true, armed := false }, 74)
  else ({ m with S := m.S.set i.toNat s, left := m.left - 1, writes := Go.RowKit.wrap64 (m.writes + 1) }, 0)
def DM.arms (n p : Int) : Bool := decide (0 ≤ n ∧ n ≤ 100000 ∧ 0 ≤ p ∧ p ≤ 256)
def DM.arm (m : DM) (n p : Int) : DM × Int := if DM.arms n p then ({ m with armed := true, left := n, part := p.toNat }, 0) else (m, 1)
def DM.start (m : DM) : DM := { m with dead := false, armed := false }
structure DM.wf (m : DM) : Prop where
  len : 1 ≤ m.S.length ∧ m.S.length ≤ 4096
  sec : ∀ s ∈ m.S, s.size = 256
  part : m.part ≤ 256
  left : m.armed = true → 0 ≤ m.left ∧ m.left ≤ 100000
theorem zs_size : zs.size = 256 := by
  show (List.replicate 256 (0 : UInt8)).toArray.size = 256
  rw [List.size_toArray, List.length_replicate]
theorem DM.at_size {m : DM} (h : m.wf) {i : Nat} (hi : i < m.S.length) : (m.at i).size = 256 := by
  unfold DM.at; rw [List.getD_eq_getElem?_getD, List.getElem?_eq_getElem hi]; exact h.sec _ (List.getElem_mem hi)
theorem dNew_wf {n : Nat} (h1 : 1 ≤ n) (h2 : n ≤ 4096) : (dNew n).wf := ⟨by simp [dNew]; omega, by simp [dNew]; intro _; exact zs_size, by simp [dNew], by simp [dNew]⟩
theorem torn_size {p : Nat} {s t : ByteArray} (hp : p ≤ 256) (hs : s.size = 256) (ht : t.size = 256) : (torn p s t).size = 256 := by
  unfold torn; rw [ByteArray.size_append, ByteArray.size_extract, ByteArray.size_extract]; omega
theorem DM.wf_set {m m' : DM} (h : m.wf) {i : Nat} {s : ByteArray} (hs : s.size = 256) (hS : m'.S = m.S.set i s) (hp : m'.part = m.part) (hl : m'.armed = true → 0 ≤ m'.left ∧ m'.left ≤ 100000) : m'.wf :=
  ⟨by rw [hS, List.length_set]; exact h.len, fun x hx => by
    rw [hS] at hx
    rcases List.mem_or_eq_of_mem_set hx with hx | rfl
    · exact h.sec x hx
    · exact hs, by rw [hp]; exact h.part, hl⟩
theorem DM.wf_same {m m' : DM} (h : m.wf) (hS : m'.S = m.S) (hp : m'.part ≤ 256) (hl : m'.armed = true → 0 ≤ m'.left ∧ m'.left ≤ 100000) : m'.wf := ⟨by rw [hS]; exact h.len, by rw [hS]; exact h.sec, hp, hl⟩
theorem DM.good_of_may {m : DM} {i : Int} (h : m.may i = 0) : m.dead = false ∧ 0 ≤ i ∧ i < m.S.length := by
  unfold DM.may at h
  cases hd : m.dead
  · simp [hd, DM.good] at h; exact ⟨rfl, h⟩
  · simp [hd] at h
theorem DM.write_wf {m : DM} (h : m.wf) (i : Int) (s : ByteArray) : (m.write i s).1.wf := by
  unfold DM.write
  split
  · exact h
  · rename_i hm
    have hm : m.may i = 0 := by simpa using hm
    obtain ⟨_, h0, h1⟩ := DM.good_of_may hm
    split
    · exact h
    · rename_i hs
      have hs : s.size = 256 := by simpa using hs
      split
      · exact DM.wf_set h (torn_size h.part hs (DM.at_size h (by omega))) rfl rfl (fun h => by cases h)
      · rename_i hc
        refine DM.wf_set h hs rfl rfl (fun ha => ?_)
        have ha : m.armed = true := ha
        have := h.left ha
        have hne : m.left ≠ 0 := fun e => hc (by unfold DM.cuts; rw [ha, e]; rfl)
        show 0 ≤ m.left - 1 ∧ m.left - 1 ≤ 100000
        omega
theorem DM.arm_wf {m : DM} (h : m.wf) (n p : Int) : (m.arm n p).1.wf := by
  unfold DM.arm
  split
  · rename_i ha
    simp [DM.arms] at ha
    exact DM.wf_same h rfl (by show p.toNat ≤ 256; omega) (fun _ => by show 0 ≤ n ∧ n ≤ 100000; omega)
  · exact h
theorem DM.start_wf {m : DM} (h : m.wf) : m.start.wf := DM.wf_same h rfl h.part (fun h => by cases h)
end Go.Proofs.YtcakellhellddaaGreatDoor
