import Derived.Test.YtcakellhellddaaGreatDoorFrPlain
set_option linter.unusedSimpArgs false
set_option linter.unusedVariables false
namespace Go.Proofs.YtcakellhellddaaGreatDoor
/-! A record's reading, as data. -/
abbrev none3 : ByteArray × Nat × Bool := (ByteArray.empty, 0, false)
def pieceOk (num n i : Nat) (x : ByteArray) : Bool := decide (secNum x = num) && ((x.extract 4 8).toList == (⟨(lesL 2 [i, n]).toArray⟩ : ByteArray).toList)
def wholeF (l : List ByteArray) (n : Nat) : ByteArray := catB ((l.take n).map (·.extract 8 252))
def restF (all : ByteArray) : Bool := (all.extract (4 + numF 4 all + 4) all.size).data.toList.all (· == 0)
def tailF (n : Nat) (all : ByteArray) : ByteArray × Nat × Bool :=
  if 60000 < numF 4 all ∨ sizeF (numF 4 all : Int) ≠ (n : Int) then none3
  else if (sumF (all.extract 0 (4 + numF 4 all)).data.toList).toNat ≠ numF 4 (all.extract (4 + numF 4 all) all.size) ∨ restF all = false then none3
  else (all.extract 4 (4 + numF 4 all), n, true)
def countF (x : ByteArray) : Nat := numF 2 (x.extract 6 x.size)
def readF (l : List ByteArray) (num : Nat) : ByteArray × Nat × Bool :=
  if num = 0 ∨ l = [] ∨ secNum (l.headD ByteArray.empty) ≠ num then none3
  else if countF (l.headD ByteArray.empty) < 1 ∨ l.length < countF (l.headD ByteArray.empty) then none3
  else if (List.range (countF (l.headD ByteArray.empty))).all (fun i => pieceOk num (countF (l.headD ByteArray.empty)) i (l.getD i ByteArray.empty)) then tailF (countF (l.headD ByteArray.empty)) (wholeF l (countF (l.headD ByteArray.empty))) else none3
theorem secNum_size {x : ByteArray} (h : secNum x ≠ 0) : x.size = 256 := by
  unfold secNum at h
  by_cases h1 : x.size = 256 ∧ ((x.extract 0 4).toList == (x.extract 252 x.size).toList) = true
  · exact h1.1
  · rw [if_neg h1] at h; exact absurd rfl h
theorem wholeF_size : ∀ (l : List ByteArray) (n : Nat), n ≤ l.length → (∀ i, i < n → (l.getD i ByteArray.empty).size = 256) → (wholeF l n).size = n * 244
  | _, 0, _, _ => by unfold wholeF; rw [catB_size]; simp
  | [], n + 1, h, _ => by simp at h
  | x :: l, n + 1, h, hs => by
    have h0 := hs 0 (by omega)
    simp only [List.getD_cons_zero] at h0
    have ih := wholeF_size l n (by simpa using h) (fun i hi => by have := hs (i + 1) (by omega); simpa using this)
    unfold wholeF at ih ⊢
    rw [catB_size] at ih ⊢
    rw [List.take_succ_cons, List.map_cons, List.map_cons, List.sum_cons, ih, ByteArray.size_extract]
    omega
theorem wholeF_succ (l : List ByteArray) (i : Nat) (hi : i < l.length) : (wholeF l (i + 1)).data.toList = (wholeF l i).data.toList ++ ((l.getD i ByteArray.empty).extract 8 252).data.toList := by
  unfold wholeF catB
  rw [List.take_succ_eq_append_getElem hi, List.map_append, List.flatMap_append]
  simp [List.getD_eq_getElem?_getD, List.getElem?_eq_getElem hi]
theorem dw_nil {α : Type} (q : α → Bool) : ∀ l : List α, l.dropWhile q = [] ↔ ∀ x ∈ l, q x = true
  | [] => by simp
  | a :: l => by
    rw [List.dropWhile_cons]
    by_cases h : q a = true
    · rw [if_pos h, dw_nil q l]; simp [h]
    · rw [if_neg h]; simp [h]
theorem trim_nil (l : List UInt8) : (Lib.trimB l 0 = [] ↔ l.all (· == 0) = true) := by
  unfold Lib.trimB Lib.trimLeftB Lib.trimRightB
  constructor
  · intro h
    rw [dw_nil] at h
    rw [List.all_eq_true]
    intro x hx
    have hx2 := List.mem_reverse.2 hx
    rw [← List.takeWhile_append_dropWhile (p := (· == (0 : UInt8))) (l := l.reverse)] at hx2
    rcases List.mem_append.1 hx2 with hm | hm
    · have := List.all_takeWhile (p := (· == (0 : UInt8))) (l := l.reverse)
      rw [List.all_eq_true] at this
      exact this x hm
    · exact h x (List.mem_reverse.2 hm)
  · intro h
    rw [List.all_eq_true] at h
    have : l.reverse.dropWhile (· == (0 : UInt8)) = [] := by
      rw [dw_nil]
      exact fun x hx => h x (List.mem_reverse.1 hx)
    rw [this]; rfl
end Go.Proofs.YtcakellhellddaaGreatDoor
namespace Go.Proofs.YtcakellhellddaaGreatDoor
theorem leL_cons (n v : Nat) : leL (n + 1) v = UInt8.ofNat (v % 256) :: leL n (v / 256) := by
  unfold leL
  rw [List.range_succ_eq_map, List.map_cons, List.map_map]
  congr 1
  · simp
  · apply List.map_congr_left
    intro i _
    show UInt8.ofNat (v / 2 ^ (8 * (i + 1)) % 256) = UInt8.ofNat (v / 256 / 2 ^ (8 * i) % 256)
    rw [show 8 * (i + 1) = 8 + 8 * i by omega, Nat.pow_add, ← Nat.div_div_eq_div_mul]
theorem leL_leNat : ∀ l : List UInt8, leL l.length (Lib.leNat l) = l
  | [] => by simp [leL]
  | b :: l => by
    have hb := b.toNat_lt
    show leL (l.length + 1) (b.toNat + 256 * Lib.leNat l) = b :: l
    rw [leL_cons, show (b.toNat + 256 * Lib.leNat l) % 256 = b.toNat by omega, show (b.toNat + 256 * Lib.leNat l) / 256 = Lib.leNat l by omega, leL_leNat l]
    simp
theorem leNat_leL : ∀ (n v : Nat), v < 256 ^ n → Lib.leNat (leL n v) = v
  | 0, v, h => by simp at h; subst h; simp [leL, Lib.leNat]
  | n + 1, v, h => by
    rw [leL_cons]
    show (UInt8.ofNat (v % 256)).toNat + 256 * Lib.leNat (leL n (v / 256)) = v
    rw [leNat_leL n (v / 256) (by rw [Nat.pow_succ] at h; exact Nat.div_lt_of_lt_mul (by omega)), UInt8.toNat_ofNat']
    omega
theorem le_iff (n v : Nat) (hv : v < 256 ^ n) (l : List UInt8) (hl : l.length = n) : leL n v = l ↔ Lib.leNat l = v := by
  constructor
  · rintro rfl; exact leNat_leL n v hv
  · rintro rfl; rw [← hl]; exact leL_leNat l
theorem extract_list (x : ByteArray) (a b : Nat) : (x.extract a b).data.toList = (x.data.toList.drop a).take (b - a) := by
  rw [ByteArray.data_extract, Array.toList_extract, List.extract_eq_take_drop]
theorem ba_ext {a b : ByteArray} (h : a.data.toList = b.data.toList) : a = b := ByteArray.ext (Array.toList_inj.1 h)
theorem ba_toList_beq (a b : ByteArray) : (a.toList == b.toList) = decide (a.data.toList = b.data.toList) := by
  rw [Go.ByteArray.toList_eq, Go.ByteArray.toList_eq]
  exact (Bool.beq_eq_decide_eq _ _)
theorem piece_iff (x : ByteArray) (hx : x.size = 256) (i n : Nat) (hi : i < 65536) (hn : n < 65536) :
    ((x.extract 4 8).toList == (⟨(lesL 2 [i, n]).toArray⟩ : ByteArray).toList) = (decide (Lib.leNat (x.extract 4 6).data.toList = i) && decide (Lib.leNat (x.extract 6 8).data.toList = n)) := by
  have hx' : x.data.toList.length = 256 := by simpa using hx
  rw [ba_toList_beq, extract_list, extract_list, extract_list]
  have e1 : (x.data.toList.drop 4).take (8 - 4) = (x.data.toList.drop 4).take (6 - 4) ++ (x.data.toList.drop 6).take (8 - 6) := by
    have : x.data.toList.drop 6 = (x.data.toList.drop 4).drop 2 := by rw [List.drop_drop]
    rw [this, ← List.take_add]
  have e2 : lesL 2 [i, n] = leL 2 i ++ leL 2 n := by simp [lesL]
  have h1 := le_iff 2 i (by omega) ((x.data.toList.drop 4).take (6 - 4)) (by simp [hx'])
  have h2 := le_iff 2 n (by omega) ((x.data.toList.drop 6).take (8 - 6)) (by simp [hx'])
  rw [e1]
  show decide (_ = lesL 2 [i, n]) = _
  rw [e2, ← Bool.decide_and]
  congr 1
  rw [← h1, ← h2, eq_iff_iff]
  constructor
  · intro h
    have := List.append_inj h (by simp [hx', leL_len])
    exact ⟨this.1.symm, this.2.symm⟩
  · rintro ⟨a, b⟩; rw [a, b]
end Go.Proofs.YtcakellhellddaaGreatDoor
namespace Go.Proofs.YtcakellhellddaaGreatDoor
/-! What a record's sectors are, and that they read back. -/
def chunk (A : ByteArray) (i : Nat) : List UInt8 := (A.data.toList.drop (i * 244)).take 244
theorem secF_list (num i k : Nat) (A : ByteArray) : (secF num i k A).data.toList = leL 4 num ++ (leL 2 i ++ (leL 2 k ++ (chunk A i ++ leL 4 num))) := by
  unfold secF catB chunk
  simp only [List.flatMap_cons, List.flatMap_nil, List.append_nil, List.toList_toArray]
  rw [extract_list, show (i + 1) * 244 - i * 244 = 244 by omega]
  simp [le, lesL]
theorem chunk_len (A : ByteArray) (i k : Nat) (hA : A.size = k * 244) (hi : i < k) : (chunk A i).length = 244 := by
  unfold chunk
  rw [List.length_take, List.length_drop]
  have : A.data.toList.length = k * 244 := by rw [← hA]; simp
  rw [this]
  have : (i + 1) * 244 ≤ k * 244 := Nat.mul_le_mul_right _ hi
  omega
theorem secF_size (num i k : Nat) (A : ByteArray) (hA : A.size = k * 244) (hi : i < k) : (secF num i k A).size = 256 := by
  have : (secF num i k A).data.toList.length = 256 := by
    rw [secF_list]
    simp only [List.length_append, leL_len, chunk_len A i k hA hi]
  simpa using this
theorem secF_num (num i k : Nat) (A : ByteArray) (hn : num < 4294967296) (hA : A.size = k * 244) (hi : i < k) : secNum (secF num i k A) = num := by
  have hs := secF_size num i k A hA hi
  have hc := chunk_len A i k hA hi
  have h4 : numF 4 (secF num i k A) = num := by
    unfold numF
    rw [secF_list, List.take_left' (leL_len 4 num)]
    exact leNat_leL 4 num hn
  have hcond : ((secF num i k A).extract 0 4).toList == ((secF num i k A).extract 252 (secF num i k A).size).toList := by
    rw [ba_toList_beq, extract_list, extract_list, hs, secF_list]
    rw [decide_eq_true_iff]
    simp only [List.drop_zero]
    rw [List.take_left' (leL_len 4 num)]
    have : List.drop 252 (leL 4 num ++ (leL 2 i ++ (leL 2 k ++ (chunk A i ++ leL 4 num)))) = leL 4 num := by
      have e : leL 4 num ++ (leL 2 i ++ (leL 2 k ++ (chunk A i ++ leL 4 num))) = (leL 4 num ++ leL 2 i ++ leL 2 k ++ chunk A i) ++ leL 4 num := by simp
      rw [e]
      exact List.drop_left' (by simp [leL_len, hc])
    rw [this, List.take_of_length_le (by rw [leL_len]; omega)]
  unfold secNum
  rw [if_pos ⟨hs, hcond⟩, h4]
theorem secF_mid (num i k : Nat) (A : ByteArray) (hA : A.size = k * 244) (hi : i < k) : ((secF num i k A).extract 4 8).data.toList = leL 2 i ++ leL 2 k ∧ ((secF num i k A).extract 8 252).data.toList = chunk A i ∧ numF 2 ((secF num i k A).extract 6 (secF num i k A).size) = Lib.leNat (leL 2 k) := by
  have hc := chunk_len A i k hA hi
  refine ⟨?_, ?_, ?_⟩
  · rw [extract_list, secF_list, List.drop_left' (leL_len 4 num), ← List.append_assoc]
    exact List.take_left' (by simp [leL_len])
  · rw [extract_list, secF_list]
    have e : leL 4 num ++ (leL 2 i ++ (leL 2 k ++ (chunk A i ++ leL 4 num))) = (leL 4 num ++ leL 2 i ++ leL 2 k) ++ (chunk A i ++ leL 4 num) := by simp
    rw [e, List.drop_left' (by simp [leL_len])]
    exact List.take_left' hc
  · unfold numF
    rw [extract_list, secF_list, secF_size num i k A hA hi]
    have e : leL 4 num ++ (leL 2 i ++ (leL 2 k ++ (chunk A i ++ leL 4 num))) = (leL 4 num ++ leL 2 i) ++ (leL 2 k ++ (chunk A i ++ leL 4 num)) := by simp
    rw [e, List.drop_left' (by simp [leL_len]), List.take_take, List.take_left' (by rw [leL_len]; omega)]
theorem secF_piece (num i k : Nat) (A : ByteArray) (hn : num < 4294967296) (hA : A.size = k * 244) (hi : i < k) : pieceOk num k i (secF num i k A) = true := by
  unfold pieceOk
  rw [secF_num num i k A hn hA hi, ba_toList_beq, (secF_mid num i k A hA hi).1]
  simp [lesL]
theorem secF_count (num i k : Nat) (A : ByteArray) (hk : k < 65536) (hA : A.size = k * 244) (hi : i < k) : countF (secF num i k A) = k := by
  unfold countF
  rw [(secF_mid num i k A hA hi).2.2]
  exact leNat_leL 2 k hk
theorem secsF_len (num : Nat) (s : ByteArray) : (secsF num s).length = sizeN s.size := by simp [secsF]
theorem secsF_get (num : Nat) (s : ByteArray) (i : Nat) (hi : i < sizeN s.size) : (secsF num s)[i]? = some (secF num i (sizeN s.size) (allF s)) := by
  unfold secsF
  rw [List.getElem?_map, List.getElem?_range hi]; rfl
theorem chunks_all (A : ByteArray) : ∀ k, ((List.range k).flatMap (chunk A)) = A.data.toList.take (k * 244)
  | 0 => by simp
  | k + 1 => by
    rw [List.range_succ, List.flatMap_append, chunks_all A k]
    simp only [List.flatMap_cons, List.flatMap_nil, List.append_nil]
    unfold chunk
    rw [← List.take_add, show k * 244 + 244 = (k + 1) * 244 by omega]
theorem catB_list (xs : List ByteArray) : (catB xs).data.toList = xs.flatMap (·.data.toList) := by simp [catB]
theorem flat_congr {α β : Type} (f g : α → List β) : ∀ l : List α, (∀ x ∈ l, f x = g x) → l.flatMap f = l.flatMap g
  | [], _ => rfl
  | a :: l, h => by rw [List.flatMap_cons, List.flatMap_cons, h a (by simp), flat_congr f g l (fun x hx => h x (by simp [hx]))]
theorem flat_secs (num k : Nat) (A : ByteArray) (hA : A.size = k * 244) : (((List.range k).map fun i => secF num i k A).map (·.extract 8 252)).flatMap (·.data.toList) = A.data.toList := by
  rw [List.flatMap_map, List.flatMap_map, flat_congr _ (chunk A) _ (fun i hi => (secF_mid num i k A hA (List.mem_range.1 hi)).2.1), chunks_all, List.take_of_length_le]
  have : A.data.toList.length = k * 244 := by rw [← hA]; simp
  omega
theorem wholeF_secs (num : Nat) (s : ByteArray) (rest : List ByteArray) : wholeF (secsF num s ++ rest) (sizeN s.size) = allF s := by
  unfold wholeF
  rw [List.take_left' (secsF_len num s)]
  apply ba_ext
  rw [catB_list]
  exact flat_secs num _ _ (allF_size s)
theorem allF_list (s : ByteArray) : (allF s).data.toList = leL 4 s.size ++ (s.data.toList ++ (leL 4 (sumF (headF s).data.toList).toNat ++ List.replicate (sizeN s.size * 244 - (bodyF s).size) 0)) := by
  unfold allF bodyF
  rw [catB_list]
  simp only [List.flatMap_cons, List.flatMap_nil, List.append_nil, catB_list]
  have : (headF s).data.toList = leL 4 s.size ++ s.data.toList := by
    unfold headF
    rw [catB_list]
    simp [le]
  rw [this]
  simp [le, zerosN]
theorem tailF_all (s : ByteArray) (hs : s.size ≤ 60000) : tailF (sizeN s.size) (allF s) = (s, sizeN s.size, true) := by
  have hsl : s.data.toList.length = s.size := by simp
  have h1 : numF 4 (allF s) = s.size := by
    unfold numF
    rw [allF_list, List.take_left' (leL_len _ _)]
    exact leNat_leL 4 _ (by omega)
  have hd : (headF s).data.toList = leL 4 s.size ++ s.data.toList := by
    unfold headF
    rw [catB_list]
    simp [le]
  have h2 : (allF s).extract 0 (4 + s.size) = headF s := by
    apply ba_ext
    rw [extract_list, allF_list, hd, List.drop_zero, ← List.append_assoc]
    exact List.take_left' (by simp [leL_len])
  have hc := (sumF (headF s).data.toList).isLt
  have h3 : numF 4 ((allF s).extract (4 + s.size) (allF s).size) = (sumF (headF s).data.toList).toNat := by
    unfold numF
    rw [extract_list, allF_list, ← List.append_assoc, List.drop_left' (by rw [List.length_append, leL_len, hsl]), List.take_take, List.take_left' ?_]
    · exact leNat_leL 4 _ hc
    · rw [leL_len, allF_size]
      have := sizeN_room s.size
      omega
  have h4 : restF (allF s) = true := by
    unfold restF
    rw [h1, extract_list, allF_list]
    have e : leL 4 s.size ++ (s.data.toList ++ (leL 4 (sumF (headF s).data.toList).toNat ++ List.replicate (sizeN s.size * 244 - (bodyF s).size) 0)) = (leL 4 s.size ++ s.data.toList ++ leL 4 (sumF (headF s).data.toList).toNat) ++ List.replicate (sizeN s.size * 244 - (bodyF s).size) 0 := by simp
    rw [e, List.drop_left' (by simp only [List.length_append, leL_len, hsl])]
    rw [List.all_eq_true]
    intro x hx
    have := List.eq_of_mem_replicate (List.mem_of_mem_take hx)
    simp [this]
  have h5 : (allF s).extract 4 (4 + s.size) = s := by
    apply ba_ext
    rw [extract_list, allF_list, List.drop_left' (leL_len _ _)]
    exact List.take_left' (by omega)
  unfold tailF
  rw [h1, h2, h3, h4, h5, if_neg, if_neg (by simp)]
  rw [sizeF_nat hs]
  simp; omega
/-- A record is read as it was made, whatever stands behind it. -/
theorem readF_make (num : Nat) (s : ByteArray) (rest : List ByteArray) (h0 : 0 < num) (hn : num < 4294967296) (hs : s.size ≤ 60000) : readF (secsF num s ++ rest) num = (s, sizeN s.size, true) := by
  have hp := sizeN_pos s.size
  have hle := sizeN_le hs
  have hA := allF_size s
  have hget : ∀ i, i < sizeN s.size → (secsF num s ++ rest)[i]? = some (secF num i (sizeN s.size) (allF s)) := fun i hi => by
    rw [List.getElem?_append_left (by rw [secsF_len]; exact hi), secsF_get num s i hi]
  have hh : (secsF num s ++ rest).headD ByteArray.empty = secF num 0 (sizeN s.size) (allF s) := by
    have := hget 0 hp
    cases hl : secsF num s ++ rest with
    | nil => rw [hl] at this; simp at this
    | cons a l => rw [hl] at this; simpa using this
  have hne : secsF num s ++ rest ≠ [] := by
    intro h; have := hget 0 hp; rw [h] at this; simp at this
  unfold readF
  rw [hh, secF_count num 0 _ _ (by omega) hA hp, secF_num num 0 _ _ hn hA hp, if_neg, if_neg, if_pos, wholeF_secs, tailF_all s hs]
  · rw [List.all_eq_true]
    intro i hi
    rw [List.getD_eq_getElem?_getD, hget i (List.mem_range.1 hi)]
    exact secF_piece num i _ _ hn hA (List.mem_range.1 hi)
  · rw [List.length_append, secsF_len]; omega
  · rintro (h | h | h)
    · omega
    · exact hne h
    · exact h rfl
/-- By another number than that of the first sector there is none. -/
theorem readF_other (l : List ByteArray) (num : Nat) (h : secNum (l.headD ByteArray.empty) ≠ num) : readF l num = none3 := by
  unfold readF; rw [if_pos (.inr (.inr h))]
end Go.Proofs.YtcakellhellddaaGreatDoor
namespace Go.Proofs.YtcakellhellddaaGreatDoor
theorem secsF_mem {num : Nat} {s x : ByteArray} (h : x ∈ secsF num s) : ∃ i, i < sizeN s.size ∧ x = secF num i (sizeN s.size) (allF s) := by
  unfold secsF at h
  obtain ⟨i, hi, rfl⟩ := List.mem_map.1 h
  exact ⟨i, List.mem_range.1 hi, rfl⟩
theorem secsF_count {num : Nat} {s x : ByteArray} (hs : s.size ≤ 60000) (h : x ∈ secsF num s) : countF x = sizeN s.size := by
  obtain ⟨i, hi, rfl⟩ := secsF_mem h
  have := sizeN_le hs
  exact secF_count num i _ _ (by omega) (allF_size s) hi
theorem secsF_size {num : Nat} {s x : ByteArray} (h : x ∈ secsF num s) : x.size = 256 := by
  obtain ⟨i, hi, rfl⟩ := secsF_mem h
  exact secF_size num i _ _ (allF_size s) hi
theorem secsF_num {num : Nat} {s x : ByteArray} (hn : num < 4294967296) (h : x ∈ secsF num s) : secNum x = num := by
  obtain ⟨i, hi, rfl⟩ := secsF_mem h
  exact secF_num num i _ _ hn (allF_size s) hi
theorem headD_mem {l : List ByteArray} (h : l ≠ []) : l.headD ByteArray.empty ∈ l := by
  cases l with
  | nil => exact absurd rfl h
  | cons a l => simp
/-- A sector of another number among those that the first one counts. -/
theorem readF_bad (l : List ByteArray) (num k j : Nat) (hall : ∀ x ∈ l, countF x = k) (hj : j < k) (hbad : secNum (l.getD j ByteArray.empty) ≠ num) : readF l num = none3 := by
  unfold readF
  by_cases c1 : num = 0 ∨ l = [] ∨ secNum (l.headD ByteArray.empty) ≠ num
  · rw [if_pos c1]
  · have hne : l ≠ [] := fun h => c1 (.inr (.inl h))
    have hk := hall _ (headD_mem hne)
    rw [if_neg c1, hk]
    by_cases c2 : k < 1 ∨ l.length < k
    · rw [if_pos c2]
    · rw [if_neg c2, if_neg]
      intro h
      rw [List.all_eq_true] at h
      have := h j (List.mem_range.2 hj)
      unfold pieceOk at this
      simp only [Bool.and_eq_true, decide_eq_true_eq] at this
      exact hbad this.1
/-- Without one of its sectors a record is none. -/
theorem readF_short (num : Nat) (s : ByteArray) (hs : s.size ≤ 60000) (at_ : Nat) (hat : at_ < sizeN s.size) : readF ((secsF num s).take at_ ++ (secsF num s).drop (at_ + 1)) num = none3 := by
  obtain ⟨l, hl⟩ : ∃ l, l = (secsF num s).take at_ ++ (secsF num s).drop (at_ + 1) := ⟨_, rfl⟩
  have hlen : l.length = sizeN s.size - 1 := by
    rw [hl, List.length_append, List.length_take, List.length_drop, secsF_len]; omega
  have hall : ∀ x ∈ l, countF x = sizeN s.size := fun x hx => by
    rw [hl] at hx
    rcases List.mem_append.1 hx with h | h
    · exact secsF_count hs (List.mem_of_mem_take h)
    · exact secsF_count hs (List.mem_of_mem_drop h)
  rw [← hl]
  unfold readF
  by_cases c1 : num = 0 ∨ l = [] ∨ secNum (l.headD ByteArray.empty) ≠ num
  · rw [if_pos c1]
  · have hne : l ≠ [] := fun h => c1 (.inr (.inl h))
    rw [if_neg c1, hall _ (headD_mem hne), if_pos (.inr (by omega))]
/-- One sector of another number. -/
def mixF (num other : Nat) (s : ByteArray) (at_ : Nat) : List ByteArray := (secsF num s).set at_ (secF other at_ (sizeN s.size) (allF s))
theorem mixF_mem {num other at_ : Nat} {s x : ByteArray} (hat : at_ < sizeN s.size) (h : x ∈ mixF num other s at_) : x ∈ secsF num s ∨ x ∈ secsF other s := by
  rcases List.mem_or_eq_of_mem_set h with h | h
  · exact .inl h
  · refine .inr ?_
    rw [h]
    exact List.mem_of_getElem? (secsF_get other s at_ hat)
theorem readF_mix (num other : Nat) (s : ByteArray) (hs : s.size ≤ 60000) (ho : other < 4294967296) (hne : other ≠ num) (at_ : Nat) (hat : at_ < sizeN s.size) : readF (mixF num other s at_) num = none3 := by
  refine readF_bad _ num (sizeN s.size) at_ (fun x hx => ?_) hat ?_
  · rcases mixF_mem hat hx with h | h
    · exact secsF_count hs h
    · exact secsF_count hs h
  · have : (mixF num other s at_).getD at_ ByteArray.empty = secF other at_ (sizeN s.size) (allF s) := by
      unfold mixF
      rw [List.getD_eq_getElem?_getD, List.getElem?_set_self (by rw [secsF_len]; exact hat)]; rfl
    rw [this, secF_num other at_ _ _ ho (allF_size s) hat]
    exact hne
theorem readF_mix_other (num other : Nat) (s : ByteArray) (hs : s.size ≤ 60000) (hn : num < 4294967296) (h0 : 0 < other) (ho : other < 4294967296) (hne : other ≠ num) (at_ : Nat) (hat : at_ < sizeN s.size) :
    (readF (mixF num other s at_) other).2.2 = decide (sizeN s.size = 1) := by
  by_cases h1 : sizeN s.size = 1
  · have ha : at_ = 0 := by omega
    have : mixF num other s at_ = secsF other s ++ [] := by
      subst ha
      apply List.ext_getElem?
      intro i
      unfold mixF
      rw [List.append_nil]
      by_cases hi : i = 0
      · subst hi
        rw [List.getElem?_set_self (by rw [secsF_len]; exact hat), secsF_get other s 0 hat]
      · rw [List.getElem?_eq_none (by rw [List.length_set, secsF_len]; omega), List.getElem?_eq_none (by rw [secsF_len]; omega)]
    rw [this, readF_make other s [] h0 ho hs, h1]; rfl
  · have hp := sizeN_pos s.size
    obtain ⟨j, hj, hja⟩ : ∃ j, j < sizeN s.size ∧ j ≠ at_ := by
      by_cases h : at_ = 0
      · exact ⟨1, by omega, by omega⟩
      · exact ⟨0, by omega, by omega⟩
    have hg : (mixF num other s at_).getD j ByteArray.empty = secF num j (sizeN s.size) (allF s) := by
      unfold mixF
      rw [List.getD_eq_getElem?_getD, List.getElem?_set_ne (Ne.symm hja), secsF_get num s j hj]; rfl
    have hb : readF (mixF num other s at_) other = none3 := by
      refine readF_bad _ other (sizeN s.size) j (fun x hx => ?_) hj ?_
      · rcases mixF_mem hat hx with h | h
        · exact secsF_count hs h
        · exact secsF_count hs h
      · rw [hg, secF_num num j _ _ hn (allF_size s) hj]
        exact Ne.symm hne
    rw [hb, decide_eq_false h1]
end Go.Proofs.YtcakellhellddaaGreatDoor
