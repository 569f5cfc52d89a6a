import Derived.Test.YtnplcjcbojjecaaDoorLePlain
set_option linter.unusedSimpArgs false
set_option linter.unusedVariables false
namespace Go.Proofs.YtnplcjcbojjecaaDoor
/-! What a record's sectors are, and that they read back. -/
def chunk (A : ByteArray) (i : Nat) : List UInt8 := (A.data.toList.drop (i * 244)).take 244
theorem secF_list (num i k : Nat) (A : ByteArray) : (secF num i k A).data.toList = leL 4 num ++ (leL 2 i ++ (leL 2 k ++ (chunk A i ++ leL 4 num))) := by
  unfold secF catB chunk
  simp only [List.flatMap_cons, List.flatMap_nil, List.append_nil, List.toList_toArray]
  rw [extract_list, show (i + 1) * 244 - i * 244 = 244 by omega]
  simp [le, lesL]
theorem chunk_len (A : ByteArray) (i k : Nat) (hA : A.size = k * 244) (hi : i < k) : (chunk A i).length = 244 := by
  unfold chunk
  rw [List.length_take, List.length_drop]
  have : A.data.toList.length = k * 244 := by rw [← hA]; simp
  rw [this]
  have : (i + 1) * 244 ≤ k * 244 := Nat.mul_le_mul_right _ hi
  omega
theorem secF_size (num i k : Nat) (A : ByteArray) (hA : A.size = k * 244) (hi : i < k) : (secF num i k A).size = 256 := by
  have : (secF num i k A).data.toList.length = 256 := by
    rw [secF_list]
    simp only [List.length_append, leL_len, chunk_len A i k hA hi]
  simpa using this
theorem secF_num (num i k : Nat) (A : ByteArray) (hn : num < 4294967296) (hA : A.size = k * 244) (hi : i < k) : secNum (secF num i k A) = num := by
  have hs := secF_size num i k A hA hi
  have hc := chunk_len A i k hA hi
  have h4 : numF 4 (secF num i k A) = num := by
    unfold numF
    rw [secF_list, List.take_left' (leL_len 4 num)]
    exact leNat_leL 4 num hn
  have hcond : ((secF num i k A).extract 0 4).toList == ((secF num i k A).extract 252 (secF num i k A).size).toList := by
    rw [ba_toList_beq, extract_list, extract_list, hs, secF_list]
    rw [decide_eq_true_iff]
    simp only [List.drop_zero]
    rw [List.take_left' (leL_len 4 num)]
    have : List.drop 252 (leL 4 num ++ (leL 2 i ++ (leL 2 k ++ (chunk A i ++ leL 4 num)))) = leL 4 num := by
      have e : leL 4 num ++ (leL 2 i ++ (leL 2 k ++ (chunk A i ++ leL 4 num))) = (leL 4 num ++ leL 2 i ++ leL 2 k ++ chunk A i) ++ leL 4 num := by simp
      rw [e]
      exact List.drop_left' (by simp [leL_len, hc])
    rw [this, List.take_of_length_le (by rw [leL_len]; omega)]
  unfold secNum
  rw [if_pos ⟨hs, hcond⟩, h4]
theorem secF_mid (num i k : Nat) (A : ByteArray) (hA : A.size = k * 244) (hi : i < k) : ((secF num i k A).extract 4 8).data.toList = leL 2 i ++ leL 2 k ∧ ((secF num i k A).extract 8 252).data.toList = chunk A i ∧ numF 2 ((secF num i k A).extract 6 (secF num i k A).size) = Lib.leNat (leL 2 k) := by
  have hc := chunk_len A i k hA hi
  refine ⟨?_, ?_, ?_⟩
  · rw [extract_list, secF_list, List.drop_left' (leL_len 4 num), ← List.append_assoc]
    exact List.take_left' (by simp [leL_len])
  · rw [extract_list, secF_list]
    have e : leL 4 num ++ (leL 2 i ++ (leL 2 k ++ (chunk A i ++ leL 4 num))) = (leL 4 num ++ leL 2 i ++ leL 2 k) ++ (chunk A i ++ leL 4 num) := by simp
    rw [e, List.drop_left' (by simp [leL_len])]
    exact List.take_left' hc
  · unfold numF
    rw [extract_list, secF_list, secF_size num i k A hA hi]
    have e : leL 4 num ++ (leL 2 i ++ (leL 2 k ++ (chunk A i ++ leL 4 num))) = (leL 4 num ++ leL 2 i) ++ (leL 2 k ++ (chunk A i ++ leL 4 num)) := by simp
    rw [e, List.drop_left' (by simp [leL_len]), List.take_take, List.take_left' (by rw [leL_len]; omega)]
theorem secF_piece (num i k : Nat) (A : ByteArray) (hn : num < 4294967296) (hA : A.size = k * 244) (hi : i < k) : pieceOk num k i (secF num i k A) = true := by
  unfold pieceOk
  rw [secF_num num i k A hn hA hi, ba_toList_beq, (secF_mid num i k A hA hi).1]
  simp [lesL]
theorem secF_count (num i k : Nat) (A : ByteArray) (hk : k < 65536) (hA : A.size = k * 244) (hi : i < k) : countF (secF num i k A) = k := by
  unfold countF
  rw [(secF_mid num i k A hA hi).2.2]
  exact leNat_leL 2 k hk
theorem secsF_len (num : Nat) (s : ByteArray) : (secsF num s).length = sizeN s.size := by simp [secsF]
theorem secsF_get (num : Nat) (s : ByteArray) (i : Nat) (hi : i < sizeN s.size) : (secsF num s)[i]? = some (secF num i (sizeN s.size) (allF s)) := by
  unfold secsF
  rw [List.getElem?_map, List.getElem?_range hi]; rfl
theorem chunks_all (A : ByteArray) : ∀ k, ((List.range k).flatMap (chunk A)) = A.data.toList.take (k * 244)
  | 0 => by simp
  | k + 1 => by
    rw [List.range_succ, List.flatMap_append, chunks_all A k]
    simp only [List.flatMap_cons, List.flatMap_nil, List.append_nil]
    unfold chunk
    rw [← List.take_add, show k * 244 + 244 = (k + 1) * 244 by omega]
theorem catB_list (xs : List ByteArray) : (catB xs).data.toList = xs.flatMap (·.data.toList) := by simp [catB]
theorem flat_congr {α β : Type} (f g : α → List β) : ∀ l : List α, (∀ x ∈ l, f x = g x) → l.flatMap f = l.flatMap g
  | [], _ => rfl
  | a :: l, h => by rw [List.flatMap_cons, List.flatMap_cons, h a (by simp), flat_congr f g l (fun x hx => h x (by simp [hx]))]
theorem flat_secs (num k : Nat) (A : ByteArray) (hA : A.size = k * 244) : (((List.range k).map fun i => secF num i k A).map (·.extract 8 252)).flatMap (·.data.toList) = A.data.toList := by
  rw [List.flatMap_map, List.flatMap_map, flat_congr _ (chunk A) _ (fun i hi => (secF_mid num i k A hA (List.mem_range.1 hi)).2.1), chunks_all, List.take_of_length_le]
  have : A.data.toList.length = k * 244 := by rw [← hA]; simp
  omega
theorem wholeF_secs (num : Nat) (s : ByteArray) (rest : List ByteArray) : wholeF (secsF num s ++ rest) (sizeN s.size) = allF s := by
  unfold wholeF
  rw [List.take_left' (secsF_len num s)]
  apply ba_ext
  rw [catB_list]
  exact flat_secs num _ _ (allF_size s)
theorem allF_list (s : ByteArray) : (allF s).data.toList = leL 4 s.size ++ (s.data.toList ++ (leL 4 (sumF (headF s).data.toList).toNat ++ List.replicate (sizeN s.size * 244 - (bodyF s).size) 0)) := by
  unfold allF bodyF
  rw [catB_list]
  simp only [List.flatMap_cons, List.flatMap_nil, List.append_nil, catB_list]
  have : (headF s).data.toList = leL 4 s.size ++ s.data.toList := by
    unfold headF
    rw [catB_list]
    simp [le]
  rw [this]
  simp [le, zerosN]
theorem tailF_all (s : ByteArray) (hs : s.size ≤ 60000) : tailF (sizeN s.size) (allF s) = (s, sizeN s.size, true) := by
  have hsl : s.data.toList.length = s.size := by simp
  have h1 : numF 4 (allF s) = s.size := by
    unfold numF
    rw [allF_list, List.take_left' (leL_len _ _)]
    exact leNat_leL 4 _ (by omega)
  have hd : (headF s).data.toList = leL 4 s.size ++ s.data.toList := by
    unfold headF
    rw [catB_list]
    simp [le]
  have h2 : (allF s).extract 0 (4 + s.size) = headF s := by
    apply ba_ext
    rw [extract_list, allF_list, hd, List.drop_zero, ← List.append_assoc]
    exact List.take_left' (by simp [leL_len])
  have hc := (sumF (headF s).data.toList).isLt
  have h3 : numF 4 ((allF s).extract (4 + s.size) (allF s).size) = (sumF (headF s).data.toList).toNat := by
    unfold numF
    rw [extract_list, allF_list, ← List.append_assoc, List.drop_left' (by rw [List.length_append, leL_len, hsl]), List.take_take, List.take_left' ?_]
    · exact leNat_leL 4 _ hc
    · rw [leL_len, allF_size]
      have := sizeN_room s.size
      omega
  have h4 : restF (allF s) = true := by
    unfold restF
    rw [h1, extract_list, allF_list]
    have e : leL 4 s.size ++ (s.data.toList ++ (leL 4 (sumF (headF s).data.toList).toNat ++ List.replicate (sizeN s.size * 244 - (bodyF s).size) 0)) = (leL 4 s.size ++ s.data.toList ++ leL 4 (sumF (headF s).data.toList).toNat) ++ List.replicate (sizeN s.size * 244 - (bodyF s).size) 0 := by simp
    rw [e, List.drop_left' (by simp only [List.length_append, leL_len, hsl])]
    rw [List.all_eq_true]
    intro x hx
    have := List.eq_of_mem_replicate (List.mem_of_mem_take hx)
    simp [this]
  have h5 : (allF s).extract 4 (4 + s.size) = s := by
    apply ba_ext
    rw [extract_list, allF_list, List.drop_left' (leL_len _ _)]
    exact List.take_left' (by omega)
  unfold tailF
  rw [h1, h2, h3, h4, h5, if_neg, if_neg (by simp)]
  rw [sizeF_nat hs]
  simp; omega
/-- A record is read as it was made, whatever stands behind it. -/
theorem readF_make (num : Nat) (s : ByteArray) (rest : List ByteArray) (h0 : 0 < num) (hn : num < 4294967296) (hs : s.size ≤ 60000) : readF (secsF num s ++ rest) num = (s, sizeN s.size, true) := by
  have hp := sizeN_pos s.size
  have hle := sizeN_le hs
  have hA := allF_size s
  have hget : ∀ i, i < sizeN s.size → (secsF num s ++ rest)[i]? = some (secF num i (sizeN s.size) (allF s)) := fun i hi => by
    rw [List.getElem?_append_left (by rw [secsF_len]; exact hi), secsF_get num s i hi]
  have hh : (secsF num s ++ rest).headD ByteArray.empty = secF num 0 (sizeN s.size) (allF s) := by
    have := hget 0 hp
    cases hl : secsF num s ++ rest with
    | nil => rw [hl] at this; simp at this
    | cons a l => rw [hl] at this; simpa using this
  have hne : secsF num s ++ rest ≠ [] := by
    intro h; have := hget 0 hp; rw [h] at this; simp at this
  unfold readF
  rw [hh, secF_count num 0 _ _ (by omega) hA hp, secF_num num 0 _ _ hn hA hp, if_neg, if_neg, if_pos, wholeF_secs, tailF_all s hs]
  · rw [List.all_eq_true]
    intro i hi
    rw [List.getD_eq_getElem?_getD, hget i (List.mem_range.1 hi)]
    exact secF_piece num i _ _ hn hA (List.mem_range.1 hi)
  · rw [List.length_append, secsF_len]; omega
  · rintro (h | h | h)
    · omega
    · exact hne h
    · exact h rfl
/-- By another number than that of the first sector there is none. -/
theorem readF_other (l : List ByteArray) (num : Nat) (h : secNum (l.headD ByteArray.empty) ≠ num) : readF l num = none3 := by
  unfold readF; rw [if_pos (.inr (.inr h))]
end Go.Proofs.YtnplcjcbojjecaaDoor
