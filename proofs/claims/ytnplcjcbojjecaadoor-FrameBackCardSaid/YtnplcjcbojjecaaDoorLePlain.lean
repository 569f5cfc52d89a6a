import Derived.Test.YtnplcjcbojjecaaDoorFrPlain2
set_option linter.unusedSimpArgs false
set_option linter.unusedVariables false
namespace Go.Proofs.YtnplcjcbojjecaaDoor
theorem leL_cons (n v : Nat) : leL (n + 1) v = UInt8.ofNat (v % 256) :: leL n (v / 256) := by
  unfold leL
  rw [List.range_succ_eq_map, List.map_cons, List.map_map]
  congr 1
  · simp
  · apply List.map_congr_left
    intro i _
    show UInt8.ofNat (v / 2 ^ (8 * (i + 1)) % 256) = UInt8.ofNat (v / 256 / 2 ^ (8 * i) % 256)
    rw [show 8 * (i + 1) = 8 + 8 * i by omega, Nat.pow_add, ← Nat.div_div_eq_div_mul]
theorem leL_leNat : ∀ l : List UInt8, leL l.length (Lib.leNat l) = l
  | [] => by simp [leL]
  | b :: l => by
    have hb := b.toNat_lt
    show leL (l.length + 1) (b.toNat + 256 * Lib.leNat l) = b :: l
    rw [leL_cons, show (b.toNat + 256 * Lib.leNat l) % 256 = b.toNat by omega, show (b.toNat + 256 * Lib.leNat l) / 256 = Lib.leNat l by omega, leL_leNat l]
    simp
theorem leNat_leL : ∀ (n v : Nat), v < 256 ^ n → Lib.leNat (leL n v) = v
  | 0, v, h => by simp at h; subst h; simp [leL, Lib.leNat]
  | n + 1, v, h => by
    rw [leL_cons]
    show (UInt8.ofNat (v % 256)).toNat + 256 * Lib.leNat (leL n (v / 256)) = v
    rw [leNat_leL n (v / 256) (by rw [Nat.pow_succ] at h; exact Nat.div_lt_of_lt_mul (by omega)), UInt8.toNat_ofNat']
    omega
theorem le_iff (n v : Nat) (hv : v < 256 ^ n) (l : List UInt8) (hl : l.length = n) : leL n v = l ↔ Lib.leNat l = v := by
  constructor
  · rintro rfl; exact leNat_leL n v hv
  · rintro rfl; rw [← hl]; exact leL_leNat l
theorem extract_list (x : ByteArray) (a b : Nat) : (x.extract a b).data.toList = (x.data.toList.drop a).take (b - a) := by
  rw [ByteArray.data_extract, Array.toList_extract, List.extract_eq_take_drop]
theorem ba_ext {a b : ByteArray} (h : a.data.toList = b.data.toList) : a = b := ByteArray.ext (Array.toList_inj.1 h)
theorem ba_toList_beq (a b : ByteArray) : (a.toList == b.toList) = decide (a.data.toList = b.data.toList) := by
  rw [Go.ByteArray.toList_eq, Go.ByteArray.toList_eq]
  exact (Bool.beq_eq_decide_eq _ _)
theorem piece_iff (x : ByteArray) (hx : x.size = 256) (i n : Nat) (hi : i < 65536) (hn : n < 65536) :
    ((x.extract 4 8).toList == (⟨(lesL 2 [i, n]).toArray⟩ : ByteArray).toList) = (decide (Lib.leNat (x.extract 4 6).data.toList = i) && decide (Lib.leNat (x.extract 6 8).data.toList = n)) := by
  have hx' : x.data.toList.length = 256 := by simpa using hx
  rw [ba_toList_beq, extract_list, extract_list, extract_list]
  have e1 : (x.data.toList.drop 4).take (8 - 4) = (x.data.toList.drop 4).take (6 - 4) ++ (x.data.toList.drop 6).take (8 - 6) := by
    have : x.data.toList.drop 6 = (x.data.toList.drop 4).drop 2 := by rw [List.drop_drop]
    rw [this, ← List.take_add]
  have e2 : lesL 2 [i, n] = leL 2 i ++ leL 2 n := by simp [lesL]
  have h1 := le_iff 2 i (by omega) ((x.data.toList.drop 4).take (6 - 4)) (by simp [hx'])
  have h2 := le_iff 2 n (by omega) ((x.data.toList.drop 6).take (8 - 6)) (by simp [hx'])
  rw [e1]
  show decide (_ = lesL 2 [i, n]) = _
  rw [e2, ← Bool.decide_and]
  congr 1
  rw [← h1, ← h2, eq_iff_iff]
  constructor
  · intro h
    have := List.append_inj h (by simp [hx', leL_len])
    exact ⟨this.1.symm, this.2.symm⟩
  · rintro ⟨a, b⟩; rw [a, b]
end Go.Proofs.YtnplcjcbojjecaaDoor
