import Derived.Test.YtcakellhellddaaGreatDoorJoOpenPlain
import Derived.Test.YtcakellhellddaaGreatDoorFrPlain2
import Derived.Test.YtcakellhellddaaGreatDoorJoAt
import Derived.Test.YtcakellhellddaaGreatDoorJoFormat
set_option linter.unusedSimpArgs false
set_option linter.unusedVariables false
namespace Go.Proofs.YtcakellhellddaaGreatDoor
/-! Writes on a disk's data, sector by sector; the number at a sector's end. -/
theorem ba_len {x : ByteArray} (h : x.size = 256) : x.data.toList.length = 256 := by rw [Array.length_toList]; exact h
/-- The number of the last four bytes. -/
def tail4 (x : ByteArray) : Nat := Lib.leNat (x.data.toList.drop 252)
theorem secNum_form {x : ByteArray} (hs : x.size = 256) : secNum x = if x.data.toList.take 4 = x.data.toList.drop 252 then tail4 x else 0 := by
  have hl := ba_len hs
  have hd : (x.data.toList.drop 252).take (256 - 252) = x.data.toList.drop 252 := List.take_of_length_le (by rw [List.length_drop, hl]; exact Nat.le_refl _)
  unfold secNum tail4
  rw [ba_toList_beq, extract_list, extract_list, hs, List.drop_zero, hd]
  by_cases h : x.data.toList.take 4 = x.data.toList.drop 252
  · rw [if_pos h, if_pos ⟨rfl, by rw [decide_eq_true_iff]; exact h⟩]
    exact congrArg Lib.leNat h
  · rw [if_neg h, if_neg (fun hh => h (by have := hh.2; rw [decide_eq_true_iff] at this; exact this))]
theorem secNum_tail {x : ByteArray} (hs : x.size = 256) : secNum x = 0 ∨ secNum x = tail4 x := by
  rw [secNum_form hs]; split
  · exact .inr rfl
  · exact .inl rfl
theorem secNum_le_tail {x : ByteArray} (hs : x.size = 256) : secNum x ≤ tail4 x := by
  rcases secNum_tail hs with h | h <;> omega
theorem tail_of_num {x : ByteArray} (h : secNum x ≠ 0) : tail4 x = secNum x := by
  rcases secNum_tail (secNum_size h) with h1 | h1
  · exact absurd h1 h
  · exact h1.symm
theorem leNat_split : ∀ (k : Nat) (l : List UInt8), Lib.leNat l = Lib.leNat (l.take k) + 256 ^ (min k l.length) * Lib.leNat (l.drop k)
  | 0, l => by simp [Lib.leNat]
  | k + 1, [] => by simp [Lib.leNat]
  | k + 1, x :: l => by
    have := leNat_split k l
    simp only [List.take_succ_cons, List.drop_succ_cons, List.length_cons, Lib.leNat]
    rw [this, show min (k + 1) (l.length + 1) = min k l.length + 1 by omega, Nat.pow_succ]
    rw [Nat.mul_add, ← Nat.mul_assoc, Nat.mul_comm 256, Nat.mul_comm (256 ^ _) 256]
    omega
/-- Low bytes of a greater number over a lesser one: not above the greater one. -/
theorem leNat_mix (k : Nat) (a b : List UInt8) (hl : a.length = b.length) (h : Lib.leNat a < Lib.leNat b) : Lib.leNat (b.take k ++ a.drop k) ≤ Lib.leNat b := by
  by_cases hk : k ≤ b.length
  · have h1 := leNat_split k (b.take k ++ a.drop k)
    rw [List.take_left' (by rw [List.length_take]; omega), List.drop_left' (by rw [List.length_take]; omega)] at h1
    have h2 := leNat_split k a
    have h3 := leNat_split k b
    have ha := leNat_lt (a.take k)
    have hb := leNat_lt (b.take k)
    rw [List.length_take] at ha hb
    rw [show min k (List.take k b ++ List.drop k a).length = k by rw [List.length_append, List.length_take, List.length_drop]; omega] at h1
    rw [show min k a.length = k by omega] at h2 ha
    rw [show min k b.length = k by omega] at h3 hb
    rw [h1]
    have h4 : Lib.leNat (a.drop k) ≤ Lib.leNat (b.drop k) := by
      rcases Nat.lt_or_ge (Lib.leNat (b.drop k)) (Lib.leNat (a.drop k)) with hc | hc
      · have := Nat.mul_le_mul_left (256 ^ k) (show Lib.leNat (b.drop k) + 1 ≤ Lib.leNat (a.drop k) from hc)
        rw [Nat.mul_add, Nat.mul_one] at this
        omega
      · exact hc
    have := Nat.mul_le_mul_left (256 ^ k) h4
    omega
  · rw [List.take_of_length_le (by omega), List.drop_of_length_le (by omega), List.append_nil]; exact Nat.le_refl _
theorem torn_list {p : Nat} {s t : ByteArray} (hp : p ≤ 256) (hs : s.size = 256) (ht : t.size = 256) : (torn p s t).data.toList = s.data.toList.take p ++ t.data.toList.drop p := by
  have la := ba_len hs
  have lb := ba_len ht
  unfold torn
  rw [ByteArray.data_append, Array.toList_append, extract_list, extract_list, ht, List.drop_zero, Nat.sub_zero]
  congr 1
  exact List.take_of_length_le (by rw [List.length_drop, lb]; exact Nat.le_refl _)
/-- A torn sector's last bytes. -/
theorem torn_tail {p : Nat} {s t : ByteArray} (hp : p ≤ 256) (hs : s.size = 256) (ht : t.size = 256) (hlt : tail4 t < tail4 s) : tail4 (torn p s t) ≤ tail4 s := by
  have la := ba_len hs
  have lb := ba_len ht
  unfold tail4 at hlt ⊢
  rw [torn_list hp hs ht, List.drop_append, List.length_take, la, show min p 256 = p by omega, List.drop_drop, List.drop_take]
  by_cases hc : p ≤ 252
  · rw [show p - 252 = 0 by omega, List.take_zero, List.nil_append, show p + (252 - p) = 252 by omega]; omega
  · rw [show 252 - p = 0 by omega, Nat.add_zero]
    have := leNat_mix (p - 252) (t.data.toList.drop 252) (s.data.toList.drop 252) (by simp [la, lb]) hlt
    rw [List.drop_drop, show 252 + (p - 252) = p by omega] at this
    exact this
/-- Of a torn sector: the new one's number is read just if it is the new one; else the old last bytes', or none. -/
theorem torn_num {p : Nat} {s t : ByteArray} {num : Nat} (hp : p ≤ 256) (hs : s.size = 256) (ht : t.size = 256) (h0 : 0 < num) (hn : secNum s = num) (hlt : tail4 t < num) :
    torn p s t = s ∨ (secNum (torn p s t) ≤ tail4 t ∧ secNum (torn p s t) ≠ num) := by
  have la := ba_len hs
  have lb := ba_len ht
  have hsz := torn_size hp hs ht
  have hts := tail_of_num (x := s) (by omega)
  by_cases hc : p ≤ 252
  · right
    have : tail4 (torn p s t) = tail4 t := by
      unfold tail4
      rw [torn_list hp hs ht, List.drop_append, List.length_take, la, show min p 256 = p by omega, List.drop_drop, List.drop_take, show p - 252 = 0 by omega, List.take_zero, List.nil_append, show p + (252 - p) = 252 by omega]
    have h1 := secNum_le_tail hsz
    omega
  · by_cases he : (torn p s t).data.toList.take 4 = (torn p s t).data.toList.drop 252
    · left
      have e4 : (torn p s t).data.toList.take 4 = s.data.toList.take 4 := by
        rw [torn_list hp hs ht, List.take_append_of_le_length (by rw [List.length_take, la]; omega), List.take_take]
        congr 1; omega
      have es : s.data.toList.take 4 = s.data.toList.drop 252 := by
        rw [secNum_form hs] at hn
        by_cases h : s.data.toList.take 4 = s.data.toList.drop 252
        · exact h
        · rw [if_neg h] at hn; omega
      apply ba_ext
      have e2 : (torn p s t).data.toList.take 252 = s.data.toList.take 252 := by
        rw [torn_list hp hs ht, List.take_append_of_le_length (by rw [List.length_take, la]; omega), List.take_take]
        congr 1; omega
      rw [← List.take_append_drop 252 (torn p s t).data.toList, e2, ← he, e4, es, List.take_append_drop]
    · right
      have : secNum (torn p s t) = 0 := by rw [secNum_form hsz, if_neg he]
      omega
theorem at_set (S : List ByteArray) (i j : Nat) (s : ByteArray) (hi : i < S.length) : (S.set i s).getD j ByteArray.empty = if j = i then s else S.getD j ByteArray.empty := by
  rw [List.getD_eq_getElem?_getD, List.getD_eq_getElem?_getD, List.getElem?_set]
  by_cases h : j = i
  · subst h; rw [if_pos rfl, if_pos hi, if_pos rfl]; rfl
  · rw [if_neg (fun e => h e.symm), if_neg h]
/-- What writing the first n of l leaves: all of them, or a torn one and those behind it. -/
def Wrote (m : DM) (at_ : Nat) (l : List ByteArray) (n : Nat) (r : DM × Int) : Prop :=
  r.1.S.length = m.S.length ∧ r.1.wf ∧
  ((r.2 = 0 ∧ r.1.dead = false ∧ (m.armed = false → r.1.armed = false) ∧ (0 ≤ m.writes → m.writes + n < 9223372036854775808 → r.1.writes = m.writes + n) ∧
      ∀ j, r.1.at j = if at_ ≤ j ∧ j < at_ + n then l.getD (j - at_) ByteArray.empty else m.at j) ∨
   (r.2 = 74 ∧ m.armed = true ∧ r.1.dead = true ∧ ∃ i p, i < n ∧ p ≤ 256 ∧
      ∀ j, r.1.at j = if at_ + i < j ∧ j < at_ + n then l.getD (j - at_) ByteArray.empty else if j = at_ + i then torn p (l.getD i ByteArray.empty) (m.at j) else m.at j))
theorem wrF_spec (at_ : Nat) (l : List ByteArray) (hl : ∀ x ∈ l, x.size = 256) : ∀ (n : Nat) (m : DM), m.wf → m.dead = false → n ≤ l.length → at_ + l.length ≤ m.S.length → Wrote m at_ l n (wrF m at_ l n)
  | 0, m, h, hd, _, _ => ⟨rfl, h, .inl ⟨rfl, hd, fun h => h, fun _ _ => (by show m.writes = m.writes + ((0 : Nat) : Int); omega), fun j => by rw [if_neg (by omega)]; rfl⟩⟩
  | n + 1, m, h, hd, hn, hr => by
    have hgi : (l.getD n ByteArray.empty).size = 256 := by rw [List.getD_eq_getElem?_getD, List.getElem?_eq_getElem (by omega : n < l.length)]; exact hl _ (List.getElem_mem _)
    have hmay : m.may ((at_ : Int) + n) = 0 := by
      unfold DM.may DM.good; rw [hd, if_neg (by simp), if_pos (by rw [decide_eq_true_iff]; omega)]
    have htn : ((at_ : Int) + n).toNat = at_ + n := by omega
    have hlt : at_ + n < m.S.length := by omega
    have hw : m.write ((at_ : Int) + n) (l.getD n ByteArray.empty) = if m.cuts then ({ m with S := m.S.set (at_ + n) (torn m.part (l.getD n ByteArray.empty) (m.at (at_ + n))), dead := true, armed := false }, 74)
        else ({ m with S := m.S.set (at_ + n) (l.getD n ByteArray.empty), left := m.left - 1, writes := Go.RowKit.wrap64 (m.writes + 1) }, 0) := by
      unfold DM.write; rw [if_neg (by simpa using hmay), if_neg (by simpa using hgi), htn]
    have hwf := DM.write_wf h ((at_ : Int) + n) (l.getD n ByteArray.empty)
    unfold wrF
    by_cases hc : m.cuts = true
    · rw [hw, if_pos hc] at *
      rw [if_pos (show (74 : Int) ≠ 0 by decide)]
      refine ⟨by simp, hwf, .inr ⟨rfl, ?_, rfl, n, m.part, by omega, h.part, fun j => ?_⟩⟩
      · unfold DM.cuts at hc; simp at hc; exact hc.1
      · rw [if_neg (by omega)]
        show (m.S.set _ _).getD j _ = _
        rw [at_set _ _ _ _ hlt]
        by_cases hj : j = at_ + n
        · subst hj; rw [if_pos rfl, if_pos rfl]
        · rw [if_neg hj, if_neg hj]; rfl
    · rw [hw, if_neg hc] at *
      rw [if_neg (show ¬ (0 : Int) ≠ 0 by decide)]
      obtain ⟨m1, hm1⟩ : ∃ m1, m1 = ({ m with S := m.S.set (at_ + n) (l.getD n ByteArray.empty), left := m.left - 1, writes := Go.RowKit.wrap64 (m.writes + 1) } : DM) := ⟨_, rfl⟩
      have hl1 : m1.S.length = m.S.length := by rw [hm1]; simp
      have hat1 : ∀ j, m1.at j = if j = at_ + n then l.getD n ByteArray.empty else m.at j := fun j => by
        rw [hm1]; show (m.S.set _ _).getD j _ = _; rw [at_set _ _ _ _ hlt]; rfl
      have hw1 : m1.writes = Go.RowKit.wrap64 (m.writes + 1) := by rw [hm1]
      have ha1 : m1.armed = m.armed := by rw [hm1]
      have hd1 : m1.dead = false := by rw [hm1]; exact hd
      rw [← hm1] at hwf ⊢
      dsimp only at hwf ⊢
      obtain ⟨g1, g2, g3⟩ := wrF_spec at_ l hl n m1 hwf hd1 (by omega) (by omega)
      refine ⟨by rw [g1, hl1], g2, ?_⟩
      rcases g3 with ⟨e1, e2, e3, e4, e5⟩ | ⟨e1, e2, e3, i, p, e4, e5, e6⟩
      · refine .inl ⟨e1, e2, by rw [← ha1]; exact e3, fun h0 h1 => ?_, fun j => ?_⟩
        · have : m1.writes = m.writes + 1 := by rw [hw1]; unfold Go.RowKit.wrap64; omega
          rw [e4 (by omega) (by omega), this]; omega
        · rw [e5 j, hat1 j]
          by_cases hj : j = at_ + n
          · subst hj; rw [if_neg (by omega), if_pos rfl, if_pos (by omega)]; congr 1; omega
          · by_cases hj2 : at_ ≤ j ∧ j < at_ + n
            · rw [if_pos hj2, if_pos (by omega)]
            · rw [if_neg hj2, if_neg hj, if_neg (by omega)]
      · refine .inr ⟨e1, by rw [← ha1]; exact e2, e3, i, p, by omega, e5, fun j => ?_⟩
        rw [e6 j]
        by_cases hj : at_ + i < j ∧ j < at_ + n
        · rw [if_pos hj, if_pos (by omega)]
        · rw [if_neg hj]
          by_cases hj2 : j = at_ + i
          · rw [if_pos hj2, if_neg (by omega), if_pos hj2, hat1, if_neg (by omega)]
          · rw [if_neg hj2, hat1]
            by_cases hj3 : j = at_ + n
            · rw [if_pos hj3, if_pos (by omega)]; congr 1; omega
            · rw [if_neg hj3, if_neg (by omega), if_neg hj2]
end Go.Proofs.YtcakellhellddaaGreatDoor
namespace Go.Proofs.YtcakellhellddaaGreatDoor
/-! What stands on the disk behind a journal, and what opening reads of it. -/
/-- Records by rising numbers, one behind the other. -/
def recL : Nat → List ByteArray → List ByteArray
  | _, [] => []
  | n, r :: rs => secsF n r ++ recL (n + 1) rs
def usedL : List ByteArray → Nat
  | [] => 0
  | r :: rs => sizeN r.size + usedL rs
theorem recL_len : ∀ (n : Nat) (l : List ByteArray), (recL n l).length = usedL l
  | _, [] => rfl
  | n, r :: rs => by unfold recL usedL; rw [List.length_append, secsF_len, recL_len (n + 1) rs]
theorem usedL_snoc : ∀ (l : List ByteArray) (r : ByteArray), usedL (l ++ [r]) = usedL l + sizeN r.size
  | [], r => by simp [usedL]
  | x :: l, r => by simp only [List.cons_append, usedL]; rw [usedL_snoc l r]; omega
theorem recL_snoc : ∀ (n : Nat) (l : List ByteArray) (r : ByteArray), recL n (l ++ [r]) = recL n l ++ secsF (n + l.length) r
  | n, [], r => by simp [recL]
  | n, x :: l, r => by
    simp only [List.cons_append, recL]
    rw [recL_snoc (n + 1) l r, List.append_assoc, List.length_cons, show n + 1 + l.length = n + (l.length + 1) by omega]
theorem usedL_len : ∀ l : List ByteArray, l.length ≤ usedL l
  | [] => Nat.le_refl _
  | r :: rs => by have := usedL_len rs; have := sizeN_pos r.size; simp only [usedL, List.length_cons]; omega
/-- The records from a place on are read as they were written. -/
theorem recsF_recL (l : List ByteArray) : ∀ (rs : List ByteArray) (k next used : Nat) (acc rest : List ByteArray), l.drop used = recL next rs ++ rest → l.length ≤ used + k → used + usedL rs ≤ l.length → 0 < next → next + rs.length < 4294967296 →
    (∀ x ∈ rs, x.size ≤ 60000) → (used + usedL rs < l.length → secNum (rest.headD ByteArray.empty) ≠ next + rs.length) → recsF l k next used acc = (acc ++ rs, next + rs.length, used + usedL rs)
  | [], k, next, used, acc, rest, hd, hk, hu, h0, hn, _, hst => by
    rw [recsF_stop l k next used acc]
    · simp [usedL]
    · rintro ⟨h1, h2⟩
      rw [hd] at h2
      have := hst (by simpa [usedL] using h1)
      rw [show recL next [] ++ rest = rest from rfl, readF_other rest next (by simpa using this)] at h2
      cases h2
  | r :: rs, k, next, used, acc, rest, hd, hk, hu, h0, hn, hs, hst => by
    have hr := readF_make next r (recL (next + 1) rs ++ rest) h0 (by omega) (hs r (by simp))
    have hd' : l.drop used = secsF next r ++ (recL (next + 1) rs ++ rest) := by rw [hd]; simp only [recL, List.append_assoc]
    rw [← hd'] at hr
    have hp := sizeN_pos r.size
    simp only [usedL] at hu hst
    obtain ⟨k', rfl, e, h3, h4⟩ := recsF_step l k next used acc hk (by omega) (by rw [hr])
    rw [hr] at e h3 h4
    dsimp only at e h3 h4
    rw [e]
    have hd2 : l.drop (used + sizeN r.size) = recL (next + 1) rs ++ rest := by
      rw [← List.drop_drop, hd', List.drop_left' (secsF_len next r)]
    rw [recsF_recL l rs k' (next + 1) (used + sizeN r.size) (acc ++ [r]) rest hd2 h3 (by omega) (by omega) (by simp only [List.length_cons] at hn; omega) (fun x hx => hs x (by simp [hx])) (fun h => by
      have := hst (by omega)
      simp only [List.length_cons] at this
      omega)]
    simp only [usedL, List.length_cons, List.append_assoc, List.cons_append, List.nil_append]
    refine Prod.ext rfl (Prod.ext ?_ ?_)
    · show next + 1 + rs.length = next + (rs.length + 1); omega
    · show used + sizeN r.size + usedL rs = used + (sizeN r.size + usedL rs); omega
/-- Whatever is read, the number ahead of the records stays. -/
theorem recsF_base (l : List ByteArray) : ∀ (k next used : Nat) (acc : List ByteArray), acc.length ≤ next → (recsF l k next used acc).2.1 - (recsF l k next used acc).1.length = next - acc.length
  | 0, _, _, _, _ => rfl
  | k + 1, next, used, acc, h => by
    unfold recsF
    split
    · rw [recsF_base l k _ _ _ (by simp; exact h)]; simp
    · rfl
structure OnDisk (m : DM) (j : JM) (num : Nat) : Prop where
  wf : m.wf
  z : jsize m ≠ 0
  area : j.area ≤ 1
  num0 : 0 < num
  num1 : num ≤ 2148483648
  next : j.next = num + 1 + j.recs.length
  used : j.used = usedL (j.base :: j.recs)
  room : j.used ≤ jsize m
  sizes : ∀ x ∈ j.base :: j.recs, x.size ≤ 60000
  head : [m.at j.area] = secsF num (headB j.area)
  body : ∀ k, k < j.used → m.at (firstF m j.area + k) = (recL num (j.base :: j.recs)).getD k ByteArray.empty
  stop : j.used < jsize m → secNum (m.at (firstF m j.area + j.used)) ≠ j.next
  other : secNum (m.at (1 - j.area)) < num
theorem jsize_facts {m : DM} (h : jsize m ≠ 0) : 8 ≤ m.S.length ∧ m.S.length = 2 + 2 * jsize m := by
  unfold jsize at h ⊢
  by_cases hc : m.S.length < 8 ∨ m.S.length % 2 ≠ 0
  · rw [if_pos hc] at h; exact absurd rfl h
  · rw [if_neg hc]; omega
theorem first_room {m : DM} (h : jsize m ≠ 0) {area : Nat} (ha : area ≤ 1) : 2 ≤ firstF m area ∧ firstF m area + jsize m ≤ m.S.length := by
  have := jsize_facts h
  unfold firstF
  rcases (by omega : area = 0 ∨ area = 1) with rfl | rfl <;> omega
theorem secsM_len' (m : DM) (a n : Nat) : (secsM m a n).length = n := by unfold secsM; simp
theorem secsM_get (m : DM) (a n k : Nat) (hk : k < n) : (secsM m a n)[k]? = some (m.at (a + k)) := by
  unfold secsM; rw [List.getElem?_map, List.getElem?_range hk]; rfl
theorem secsM_split {m : DM} {a n u : Nat} {L : List ByteArray} (hl : L.length = u) (hu : u ≤ n) (h : ∀ k, k < u → m.at (a + k) = L.getD k ByteArray.empty) : secsM m a n = L ++ secsM m (a + u) (n - u) := by
  apply List.ext_getElem?
  intro k
  by_cases hk : k < n
  · rw [secsM_get _ _ _ _ hk]
    by_cases hku : k < u
    · rw [List.getElem?_append_left (by omega), h k hku, List.getD_eq_getElem?_getD, List.getElem?_eq_getElem (by omega : k < L.length)]; rfl
    · rw [List.getElem?_append_right (by omega), hl, secsM_get _ _ _ _ (by omega), show a + u + (k - u) = a + k by omega]
  · rw [List.getElem?_eq_none (by rw [secsM_len']; omega), List.getElem?_eq_none (by rw [List.length_append, secsM_len', hl]; omega)]
theorem headB_size (a : Nat) : (headB a).size = 2 := rfl
theorem head_num {m : DM} {num a : Nat} (hn : num < 4294967296) (h : [m.at a] = secsF num (headB a)) : secNum (m.at a) = num := secsF_num hn (s := headB a) (by rw [← h]; simp)
theorem OnDisk.begins {m : DM} {j : JM} {num : Nat} (h : OnDisk m j num) (hd : m.dead = false) : beginsF m j.area = (some { j with dead := false }, 0) := by
  have hlen := h.wf.len
  have hj := jsize_facts h.z
  have hn : num < 4294967296 := by have := h.num1; omega
  have hhn := head_num hn h.head
  have hu := h.used
  have hlr := usedL_len (j.base :: j.recs)
  have hroom := h.room
  have hnum1 := h.num1
  have hrl : j.recs.length + 1 ≤ 4096 := by simp only [List.length_cons] at hlr; omega
  have hsp := secsM_split (m := m) (a := firstF m j.area) (L := recL num (j.base :: j.recs)) (recL_len _ _) (by rw [← hu]; exact hroom) (fun k hk => h.body k (by rw [hu]; exact hk))
  have hh : readF [m.at j.area] num = (headB j.area, 1, true) := by
    have := readF_make num (headB j.area) [] h.num0 hn (by rw [headB_size]; omega)
    rw [← h.head, List.append_nil] at this
    rw [this, headB_size]; rfl
  have hb : readF (secsM m (firstF m j.area) (jsize m)) num = (j.base, sizeN j.base.size, true) := by
    rw [hsp]; unfold recL
    rw [List.append_assoc]
    exact readF_make num j.base _ h.num0 hn (h.sizes _ (by simp))
  have hrec : recsF (secsM m (firstF m j.area) (jsize m)) (jsize m) (num + 1) (sizeN j.base.size) [] = (j.recs, j.next, j.used) := by
    have hu2 : usedL (j.base :: j.recs) = sizeN j.base.size + usedL j.recs := rfl
    rw [recsF_recL _ j.recs (jsize m) (num + 1) (sizeN j.base.size) [] (secsM m (firstF m j.area + usedL (j.base :: j.recs)) (jsize m - usedL (j.base :: j.recs)))]
    · rw [h.next, hu, hu2]; rfl
    · rw [hsp]
      rw [show recL num (j.base :: j.recs) = secsF num j.base ++ recL (num + 1) j.recs from rfl, List.append_assoc, List.drop_left' (secsF_len _ _)]
    · rw [secsM_len']; omega
    · rw [secsM_len', ← hu2, ← hu]; exact hroom
    · omega
    · omega
    · exact fun x hx => h.sizes x (by simp [hx])
    · intro hlt
      rw [secsM_len', ← hu2, ← hu] at hlt
      have hst := h.stop hlt
      have hx : (secsM m (firstF m j.area + usedL (j.base :: j.recs)) (jsize m - usedL (j.base :: j.recs))).headD ByteArray.empty = m.at (firstF m j.area + j.used) := by
        rw [← hu]
        have := secsM_get m (firstF m j.area + j.used) (jsize m - j.used) 0 (by omega)
        rw [List.headD_eq_head?_getD, List.head?_eq_getElem?, this]; rfl
      rw [hx, ← h.next]; exact hst
  unfold beginsF
  rw [hd, hhn, hh, hb]
  dsimp only
  rw [hrec, if_neg (by simp), if_neg (by rintro (h1 | h1 | h1); cases h1; exact h1 rfl; omega), if_neg (by simp)]
theorem begins_num {m : DM} {area : Nat} {b : JM} {e : Int} (h : beginsF m area = (some b, e)) : b.next - b.recs.length = secNum (m.at area) + 1 := by
  unfold beginsF at h
  split at h
  · cases h
  split at h
  · cases h
  split at h
  · cases h
  injection h with h _
  injection h with h
  subst h
  exact recsF_base _ _ _ _ _ (Nat.zero_le _)
/-- Opening tells it. -/
theorem OnDisk.opens {m : DM} {j : JM} {num : Nat} (h : OnDisk m j num) (hd : m.dead = false) : openF m = (some { j with dead := false }, 0) := by
  have hb : ∀ a, a = j.area → beginsF m a = (some { j with dead := false }, 0) := fun a ha => by rw [ha]; exact h.begins hd
  have hn := h.next
  have ho := h.other
  have hnx : ({ j with dead := false } : JM).next - ({ j with dead := false } : JM).recs.length = num + 1 := by show j.next - j.recs.length = num + 1; omega
  unfold openF
  rw [if_neg h.z, hd, if_neg (by simp)]
  rcases (by have := h.area; omega : j.area = 0 ∨ j.area = 1) with ha | ha
  · rw [ha] at ho
    rw [hb 0 ha.symm]
    cases hq : (beginsF m 1).1 with
    | none => rfl
    | some b =>
      have hbn := begins_num (m := m) (area := 1) (b := b) (e := (beginsF m 1).2) (by rw [← hq])
      unfold pickF
      dsimp only at hnx ⊢
      rw [if_neg]
      rw [hnx, hbn]
      simp only [Nat.sub_zero] at ho
      omega
  · rw [ha] at ho
    rw [hb 1 ha.symm]
    cases hq : (beginsF m 0).1 with
    | none => rfl
    | some b =>
      have hbn := begins_num (m := m) (area := 0) (b := b) (e := (beginsF m 0).2) (by rw [← hq])
      unfold pickF
      dsimp only at hnx ⊢
      rw [if_pos]
      rw [hnx, hbn]
      simp only [Nat.sub_self] at ho
      omega
theorem same_size {m m' : DM} (h : m'.S.length = m.S.length) : jsize m' = jsize m := by unfold jsize; rw [h]
theorem same_first {m m' : DM} (h : m'.S.length = m.S.length) (a : Nat) : firstF m' a = firstF m a := by unfold firstF; rw [same_size h]
/-- Another disk that is alike where it matters. -/
theorem OnDisk.keep {m m' : DM} {j : JM} {num : Nat} (h : OnDisk m j num) (hl : m'.S.length = m.S.length) (hw : m'.wf) (h1 : m'.at j.area = m.at j.area)
    (h2 : ∀ k, k < j.used → m'.at (firstF m j.area + k) = m.at (firstF m j.area + k)) (h3 : j.used < jsize m → secNum (m'.at (firstF m j.area + j.used)) ≠ j.next) (h4 : secNum (m'.at (1 - j.area)) < num) : OnDisk m' j num :=
  ⟨hw, by rw [same_size hl]; exact h.z, h.area, h.num0, h.num1, h.next, h.used, by rw [same_size hl]; exact h.room, h.sizes, by rw [h1]; exact h.head,
    fun k hk => by rw [same_first hl, h2 k hk]; exact h.body k hk, fun hk => by rw [same_first hl]; exact h3 (by rw [same_size hl] at hk; exact hk), h4⟩
theorem OnDisk.dead {m : DM} {j : JM} {num : Nat} (h : OnDisk m j num) (d : Bool) : OnDisk m { j with dead := d } num :=
  ⟨h.wf, h.z, h.area, h.num0, h.num1, h.next, h.used, h.room, h.sizes, h.head, h.body, h.stop, h.other⟩
/-- One record more. -/
theorem OnDisk.more {m m' : DM} {j : JM} {num : Nat} (h : OnDisk m j num) (r : ByteArray) (hr : r.size ≤ 60000) (hroom : j.used + sizeN r.size ≤ jsize m) (hl : m'.S.length = m.S.length) (hw : m'.wf)
    (hat : ∀ k, m'.at k = if firstF m j.area + j.used ≤ k ∧ k < firstF m j.area + j.used + sizeN r.size then (secsF j.next r).getD (k - (firstF m j.area + j.used)) ByteArray.empty else m.at k)
    (hst : j.used + sizeN r.size < jsize m → secNum (m.at (firstF m j.area + (j.used + sizeN r.size))) ≠ j.next + 1) :
    OnDisk m' { j with recs := j.recs ++ [r], next := j.next + 1, used := j.used + sizeN r.size } num := by
  have hf := first_room h.z h.area
  have hu := h.used
  have hn := h.next
  have ha := h.area
  refine ⟨hw, by rw [same_size hl]; exact h.z, h.area, h.num0, h.num1, ?_, ?_, by rw [same_size hl]; exact hroom, ?_, ?_, ?_, ?_, ?_⟩
  · show j.next + 1 = num + 1 + (j.recs ++ [r]).length
    rw [List.length_append, hn, List.length_singleton]; omega
  · show j.used + sizeN r.size = usedL (j.base :: (j.recs ++ [r]))
    rw [← List.cons_append, usedL_snoc, hu]
  · intro x hx
    show x.size ≤ 60000
    rw [← List.cons_append] at hx
    rcases List.mem_append.1 hx with hx | hx
    · exact h.sizes x hx
    · rw [List.mem_singleton.1 hx]; exact hr
  · show [m'.at j.area] = _
    rw [hat, if_neg (by omega)]; exact h.head
  · intro k hk
    show m'.at (firstF m' j.area + k) = (recL num (j.base :: (j.recs ++ [r]))).getD k ByteArray.empty
    have hk : k < j.used + sizeN r.size := hk
    rw [same_first hl, hat, ← List.cons_append, recL_snoc]
    have hrl := recL_len num (j.base :: j.recs)
    by_cases hk2 : k < j.used
    · rw [if_neg (by omega), h.body k hk2, List.getD_eq_getElem?_getD, List.getD_eq_getElem?_getD, List.getElem?_append_left (by omega)]
    · rw [if_pos (by omega), List.getD_eq_getElem?_getD, List.getD_eq_getElem?_getD, List.getElem?_append_right (by omega), hrl, ← hu, List.length_cons, show num + (j.recs.length + 1) = j.next by omega]
      congr 2; omega
  · intro hk
    show secNum (m'.at (firstF m' j.area + (j.used + sizeN r.size))) ≠ j.next + 1
    have hk : j.used + sizeN r.size < jsize m' := hk
    rw [same_size hl] at hk
    rw [same_first hl, hat, if_neg (by omega)]
    exact hst hk
  · show secNum (m'.at (1 - j.area)) < num
    rw [hat, if_neg (by omega)]
    exact h.other
/-- Another base, in the other area. -/
theorem based {m' : DM} {area num : Nat} {base : ByteArray} (hw : m'.wf) (hz : jsize m' ≠ 0) (ha : area ≤ 1) (h0 : 0 < num) (h1 : num ≤ 2148483648) (hr : base.size ≤ 60000) (hroom : sizeN base.size ≤ jsize m')
    (hh : [m'.at area] = secsF num (headB area)) (hb : ∀ k, k < sizeN base.size → m'.at (firstF m' area + k) = (secsF num base).getD k ByteArray.empty)
    (hst : sizeN base.size < jsize m' → secNum (m'.at (firstF m' area + sizeN base.size)) ≠ num + 1) (ho : secNum (m'.at (1 - area)) < num) :
    OnDisk m' ⟨area, base, [], num + 1, sizeN base.size, false⟩ num := by
  refine ⟨hw, hz, ha, h0, h1, rfl, ?_, hroom, ?_, hh, ?_, hst, ho⟩
  · simp [usedL]
  · intro x hx; rw [List.mem_singleton.1 hx]; exact hr
  · intro k hk
    rw [hb k hk]; simp [recL]
end Go.Proofs.YtcakellhellddaaGreatDoor
namespace Go.Proofs.YtcakellhellddaaGreatDoor
/-! What Append, Save and Format leave on the disk. -/
def appendF (m : DM) (j : JM) (s : ByteArray) : DM × JM × Int :=
  if (j.may s ((jsize m : Int) - (j.used : Int))).2 ≠ 0 then (m, j, (j.may s ((jsize m : Int) - (j.used : Int))).2)
  else if (writeF m (firstF m j.area + j.used : Nat) j.next s).2 ≠ 0 then ((writeF m (firstF m j.area + j.used : Nat) j.next s).1, { j with dead := true }, (writeF m (firstF m j.area + j.used : Nat) j.next s).2)
  else ((writeF m (firstF m j.area + j.used : Nat) j.next s).1, { j with recs := j.recs ++ [s], next := j.next + 1, used := j.used + sizeN s.size }, 0)
def saveF (m : DM) (j : JM) (s : ByteArray) : DM × JM × Int :=
  if (j.may s (jsize m : Int)).2 ≠ 0 then (m, j, (j.may s (jsize m : Int)).2)
  else if (beginF m (1 - j.area) j.next s).2 ≠ 0 then ((beginF m (1 - j.area) j.next s).1, { j with dead := true }, (beginF m (1 - j.area) j.next s).2)
  else ((beginF m (1 - j.area) j.next s).1, ⟨1 - j.area, s, [], j.next + 1, sizeN s.size, j.dead⟩, 0)
theorem may_ok {j : JM} {s : ByteArray} {room : Int} (h : (j.may s room).2 = 0) : j.dead = false ∧ s.size ≤ 60000 ∧ (sizeN s.size : Int) ≤ room ∧ j.next ≤ 2148483648 ∧ (j.may s room).1 = sizeN s.size := by
  unfold JM.may fitsF at h ⊢
  cases hd : j.dead
  · rw [hd] at h
    simp only [Bool.false_eq_true, if_false] at h ⊢
    by_cases h1 : 60000 < s.size
    · simp only [if_pos h1] at h; simp at h
    · simp only [if_neg h1] at h ⊢
      by_cases h2 : room < (sizeN s.size : Int)
      · simp only [if_pos h2] at h; simp at h
      · simp only [if_neg h2] at h ⊢
        by_cases h3 : 2148483648 < j.next
        · rw [if_pos ⟨trivial, h3⟩] at h; simp at h
        · exact ⟨trivial, by omega, by omega, by omega, trivial⟩
  · rw [hd] at h; simp at h
theorem may_err {j : JM} {s : ByteArray} {room : Int} (h : (j.may s room).2 ≠ 0) (hd : j.dead = false) (hn : j.next ≤ 2148483648) : ((j.may s room).2 = 2 ∧ 60000 < s.size) ∨ ((j.may s room).2 = 73 ∧ s.size ≤ 60000 ∧ room < (sizeN s.size : Int)) := by
  unfold JM.may fitsF at h ⊢
  rw [hd] at h ⊢
  simp only [Bool.false_eq_true, if_false] at h ⊢
  by_cases h1 : 60000 < s.size
  · left; simp only [if_pos h1] at h ⊢; exact ⟨by simp, h1⟩
  · simp only [if_neg h1] at h ⊢
    by_cases h2 : room < (sizeN s.size : Int)
    · right; simp only [if_pos h2] at h ⊢; exact ⟨by simp, by omega, h2⟩
    · simp only [if_neg h2] at h
      rw [if_neg (fun hh => by have := hh.2; omega)] at h
      exact absurd rfl h
theorem secsF_secsize {num : Nat} {s : ByteArray} : ∀ x ∈ secsF num s, x.size = 256 := fun _ hx => secsF_size hx
theorem writeF_spec {m : DM} (h : m.wf) (hd : m.dead = false) (at_ num : Nat) (s : ByteArray) (h0 : 0 < num) (hs : s.size ≤ 60000) (hr : at_ + sizeN s.size ≤ m.S.length) : Wrote m at_ (secsF num s) (sizeN s.size) (writeF m at_ num s) := by
  unfold writeF
  rw [makeF_some num s h0 hs, if_neg (by simp), secsF_len]
  exact wrF_spec at_ _ secsF_secsize _ _ h hd (by rw [secsF_len]; exact Nat.le_refl _) (by rw [secsF_len]; exact hr)
theorem secsF_getD {num : Nat} {s : ByteArray} {i : Nat} (hi : i < sizeN s.size) : (secsF num s).getD i ByteArray.empty ∈ secsF num s := by
  rw [List.getD_eq_getElem?_getD, List.getElem?_eq_getElem (by rw [secsF_len]; exact hi)]
  exact List.getElem_mem _
theorem sec_num {num : Nat} {s : ByteArray} (hn : num < 4294967296) {i : Nat} (hi : i < sizeN s.size) : secNum ((secsF num s).getD i ByteArray.empty) = num := secsF_num hn (secsF_getD hi)
theorem sec_tail {num : Nat} {s : ByteArray} (h0 : 0 < num) (hn : num < 4294967296) {i : Nat} (hi : i < sizeN s.size) : tail4 ((secsF num s).getD i ByteArray.empty) = num := by
  have := sec_num (s := s) hn hi
  rw [tail_of_num (by omega), this]
/-- All last numbers are below the next one. -/
structure Tight (m : DM) (j : JM) (num : Nat) : Prop where
  on : OnDisk m j num
  all : ∀ i, i < m.S.length → tail4 (m.at i) < j.next
  oth : tail4 (m.at (1 - j.area)) < num
/-- None is above it; an area's last numbers are below it. -/
structure Loose (m : DM) (j : JM) (num : Nat) : Prop where
  on : OnDisk m j num
  all : ∀ i, i < m.S.length → tail4 (m.at i) ≤ j.next
def OwnFree (m : DM) (j : JM) : Prop := ∀ i, i < jsize m → tail4 (m.at (firstF m j.area + i)) < j.next
def OthFree (m : DM) (j : JM) (num : Nat) : Prop := (∀ i, i < jsize m → tail4 (m.at (firstF m (1 - j.area) + i)) < j.next) ∧ tail4 (m.at (1 - j.area)) < num
theorem Tight.loose {m : DM} {j : JM} {num : Nat} (h : Tight m j num) : Loose m j num := ⟨h.on, fun i hi => Nat.le_of_lt (h.all i hi)⟩
theorem Tight.own {m : DM} {j : JM} {num : Nat} (h : Tight m j num) : OwnFree m j := fun i hi => h.all _ (by have := first_room h.on.z h.on.area; omega)
theorem Tight.othf {m : DM} {j : JM} {num : Nat} (h : Tight m j num) : OthFree m j num := ⟨fun i hi => h.all _ (by have := first_room h.on.z (area := 1 - j.area) (by omega); omega), h.oth⟩
/-- Two areas have no sector together. -/
theorem areas {m : DM} (hz : jsize m ≠ 0) {a : Nat} (ha : a ≤ 1) {i : Nat} (h : firstF m a ≤ i) (h2 : i < firstF m a + jsize m) : ¬ (firstF m (1 - a) ≤ i ∧ i < firstF m (1 - a) + jsize m) := by
  unfold firstF at *
  rcases (by omega : a = 0 ∨ a = 1) with rfl | rfl <;> simp at * <;> omega
theorem OnDisk.nlt {m : DM} {j : JM} {num : Nat} (h : OnDisk m j num) : j.next < 4294967296 ∧ num < j.next ∧ j.recs.length ≤ 4096 := by
  have h1 := usedL_len (j.base :: j.recs)
  have h2 := h.used
  have h3 := h.room
  have h4 := jsize_facts h.z
  have h5 := h.wf.len
  have h6 := h.num1
  have h7 := h.next
  simp only [List.length_cons] at h1
  omega
/-- What an Append leaves: all is there, or all is as ahead of it. -/
theorem append_law {m : DM} {j : JM} {num : Nat} (h : Loose m j num) (hd : m.dead = false) (hj : j.dead = false) (s : ByteArray) (hc : m.armed = true → OwnFree m j) :
    ∃ r, r = appendF m j s ∧ r.1.S.length = m.S.length ∧ r.1.wf ∧
    ((r.2.2 = 0 ∧ s.size ≤ 60000 ∧ r.1.dead = false ∧ (m.armed = false → r.1.armed = false) ∧ (0 ≤ m.writes → m.writes + sizeN s.size < 9223372036854775808 → r.1.writes = m.writes + sizeN s.size) ∧ r.2.1 = { j with recs := j.recs ++ [s], next := j.next + 1, used := j.used + sizeN s.size } ∧
        j.used + sizeN s.size ≤ jsize m ∧ OnDisk r.1 r.2.1 num ∧ (∀ i, i < m.S.length → tail4 (r.1.at i) < j.next + 1) ∧ r.1.at (1 - j.area) = m.at (1 - j.area)) ∨
     ((r.2.2 = 2 ∧ 60000 < s.size ∨ r.2.2 = 73 ∧ (s.size ≤ 60000 → j.next ≤ 2148483648 → jsize m < j.used + sizeN s.size)) ∧ r.1 = m ∧ r.2.1 = j) ∨
     (r.2.2 = 74 ∧ r.1.dead = true ∧ m.armed = true ∧
        ((OnDisk r.1 { j with recs := j.recs ++ [s], next := j.next + 1, used := j.used + sizeN s.size } num ∧ (∀ i, i < m.S.length → tail4 (r.1.at i) < j.next + 1) ∧ r.1.at (1 - j.area) = m.at (1 - j.area)) ∨
         (Loose r.1 j num ∧ (OthFree m j num → OthFree r.1 j num))))) := by
  refine ⟨_, rfl, ?_⟩
  have hu := h.on.used
  have hz := jsize_facts h.on.z
  have hf := first_room h.on.z h.on.area
  have ha := h.on.area
  have hnl := h.on.nlt
  unfold appendF
  by_cases h1 : (j.may s ((jsize m : Int) - (j.used : Int))).2 = 0
  · obtain ⟨_, hs, hroom, hnx, _⟩ := may_ok h1
    have hroom : j.used + sizeN s.size ≤ jsize m := by omega
    have hW := writeF_spec h.on.wf hd (firstF m j.area + j.used) j.next s (by omega) hs (by omega)
    rw [if_neg (by simpa using h1)]
    obtain ⟨r, hr⟩ : ∃ r, r = writeF m (firstF m j.area + j.used : Nat) j.next s := ⟨_, rfl⟩
    rw [← hr] at hW ⊢
    obtain ⟨g1, g2, g3⟩ := hW
    rcases g3 with ⟨e1, e2, e3, e4, e5⟩ | ⟨e1, e2, e3, i, p, e4, e5, e6⟩
    · rw [if_neg (by simpa using e1)]
      refine ⟨g1, g2, .inl ⟨rfl, hs, e2, e3, e4, rfl, hroom, ?_, ?_, ?_⟩⟩
      · refine h.on.more s hs hroom g1 g2 e5 (fun hlt => ?_)
        have h2 := h.all (firstF m j.area + (j.used + sizeN s.size)) (by omega)
        have h3 := secNum_le_tail (DM.at_size h.on.wf (i := firstF m j.area + (j.used + sizeN s.size)) (by omega))
        omega
      · intro k hk
        show tail4 (r.1.at k) < _
        rw [e5 k]
        by_cases hc2 : firstF m j.area + j.used ≤ k ∧ k < firstF m j.area + j.used + sizeN s.size
        · rw [if_pos hc2, sec_tail (by omega) hnl.1 (by omega)]; omega
        · rw [if_neg hc2]; have := h.all k hk; omega
      · show r.1.at (1 - j.area) = _
        rw [e5, if_neg (by omega)]
    · rw [if_pos (by rw [e1]; decide)]
      have hfree := hc e2
      refine ⟨g1, g2, .inr (.inr ⟨e1, e3, e2, ?_⟩)⟩
      have hxs : (m.at (firstF m j.area + j.used + i)).size = 256 := DM.at_size h.on.wf (by omega)
      have hss : ((secsF j.next s).getD i ByteArray.empty).size = 256 := secsF_secsize _ (secsF_getD e4)
      have hxt : tail4 (m.at (firstF m j.area + j.used + i)) < j.next := by have := hfree (j.used + i) (by omega); rw [← Nat.add_assoc] at this; exact this
      have hlaw := torn_num e5 hss hxs (by omega : 0 < j.next) (sec_num hnl.1 e4) hxt
      have htl := torn_tail e5 hss hxs (by rw [sec_tail (by omega) hnl.1 e4]; exact hxt)
      rw [sec_tail (by omega) hnl.1 e4] at htl
      by_cases hwhole : i = 0 ∧ torn p ((secsF j.next s).getD i ByteArray.empty) (m.at (firstF m j.area + j.used + i)) = (secsF j.next s).getD i ByteArray.empty
      · left
        obtain ⟨hi0, hw⟩ := hwhole
        have e7 : ∀ k, r.1.at k = if firstF m j.area + j.used ≤ k ∧ k < firstF m j.area + j.used + sizeN s.size then (secsF j.next s).getD (k - (firstF m j.area + j.used)) ByteArray.empty else m.at k := fun k => by
          rw [e6 k]
          by_cases hk : k = firstF m j.area + j.used + i
          · subst hk
            rw [if_neg (by omega), if_pos rfl, hw, if_pos (by omega)]
            congr 1; omega
          · rw [if_neg hk]
            by_cases hk2 : firstF m j.area + j.used + i < k ∧ k < firstF m j.area + j.used + sizeN s.size
            · rw [if_pos hk2, if_pos (by omega)]
            · rw [if_neg hk2, if_neg (by omega)]
        refine ⟨?_, ?_, ?_⟩
        · refine h.on.more s hs hroom g1 g2 e7 (fun hlt => ?_)
          have h2 := h.all (firstF m j.area + (j.used + sizeN s.size)) (by omega)
          have h3 := secNum_le_tail (DM.at_size h.on.wf (i := firstF m j.area + (j.used + sizeN s.size)) (by omega))
          omega
        · intro k hk
          show tail4 (r.1.at k) < _
          rw [e7 k]
          by_cases hc2 : firstF m j.area + j.used ≤ k ∧ k < firstF m j.area + j.used + sizeN s.size
          · rw [if_pos hc2, sec_tail (by omega) hnl.1 (by omega)]; omega
          · rw [if_neg hc2]; have := h.all k hk; omega
        · show r.1.at (1 - j.area) = _
          rw [e7, if_neg (by omega)]
      · right
        refine ⟨⟨h.on.keep g1 g2 ?_ ?_ ?_ ?_, ?_⟩, ?_⟩
        · show r.1.at j.area = _
          rw [e6, if_neg (by omega), if_neg (by omega)]
        · intro k hk
          show r.1.at (firstF m j.area + k) = _
          rw [e6, if_neg (by omega), if_neg (by omega)]
        · intro hlt
          show secNum (r.1.at (firstF m j.area + j.used)) ≠ j.next
          rw [e6, if_neg (by omega)]
          by_cases hi0 : i = 0
          · subst hi0
            rw [if_pos (by omega)]
            rcases hlaw with hl | hl
            · exact absurd ⟨rfl, hl⟩ hwhole
            · exact hl.2
          · rw [if_neg (by omega)]; exact h.on.stop hlt
        · show secNum (r.1.at (1 - j.area)) < num
          rw [e6, if_neg (by omega), if_neg (by omega)]
          exact h.on.other
        · intro k hk
          show tail4 (r.1.at k) ≤ j.next
          have hk : k < r.1.S.length := hk
          rw [e6 k]
          by_cases hk2 : firstF m j.area + j.used + i < k ∧ k < firstF m j.area + j.used + sizeN s.size
          · rw [if_pos hk2, sec_tail (by omega) hnl.1 (by omega)]; exact Nat.le_refl _
          · rw [if_neg hk2]
            by_cases hk3 : k = firstF m j.area + j.used + i
            · rw [if_pos hk3, hk3]; exact htl
            · rw [if_neg hk3]; exact h.all k (by omega)
        · rintro ⟨o1, o2⟩
          refine ⟨fun k hk => ?_, ?_⟩
          · show tail4 (r.1.at (firstF r.1 (1 - j.area) + k)) < j.next
            have hk : k < jsize r.1 := hk
            rw [same_size g1] at hk
            have hne := areas (m := m) h.on.z (a := 1 - j.area) (by omega) (i := firstF m (1 - j.area) + k) (by omega) (by omega)
            rw [show 1 - (1 - j.area) = j.area by omega] at hne
            rw [same_first g1, e6, if_neg (by omega), if_neg (by omega)]
            exact o1 k hk
          · show tail4 (r.1.at (1 - j.area)) < num
            rw [e6, if_neg (by omega), if_neg (by omega)]
            exact o2
  · rw [if_pos (by simpa using h1)]
    refine ⟨rfl, h.on.wf, .inr (.inl ⟨?_, rfl, rfl⟩)⟩
    show ((j.may s ((jsize m : Int) - (j.used : Int))).2 = 2 ∧ _) ∨ ((j.may s ((jsize m : Int) - (j.used : Int))).2 = 73 ∧ _)
    unfold JM.may fitsF at h1 ⊢
    rw [hj] at h1 ⊢
    simp only [Bool.false_eq_true, if_false] at h1 ⊢
    by_cases c1 : 60000 < s.size
    · left; simp only [if_pos c1]; exact ⟨by simp, c1⟩
    · right
      simp only [if_neg c1] at h1 ⊢
      by_cases c2 : ((jsize m : Int) - (j.used : Int)) < (sizeN s.size : Int)
      · simp only [if_pos c2]; exact ⟨by simp, fun _ _ => by omega⟩
      · simp only [if_neg c2] at h1 ⊢
        by_cases c3 : 2148483648 < j.next
        · rw [if_pos ⟨trivial, c3⟩]; exact ⟨rfl, fun _ h => by omega⟩
        · rw [if_neg (fun hh => c3 hh.2)] at h1; exact absurd rfl h1
end Go.Proofs.YtcakellhellddaaGreatDoor
namespace Go.Proofs.YtcakellhellddaaGreatDoor
theorem headB_n (a : Nat) : sizeN (headB a).size = 1 := by rw [headB_size]; rfl
theorem head_secs (num a : Nat) : secsF num (headB a) = [(secsF num (headB a)).getD 0 ByteArray.empty] := by
  have hl := secsF_len num (headB a)
  rw [headB_n] at hl
  obtain ⟨x, hx⟩ := List.length_eq_one_iff.1 hl
  rw [hx]; rfl
/-- What stands on a disk when base and head are written. -/
theorem based_on {m r : DM} {j : JM} {num : Nat} (h : Loose m j num) (s : ByteArray) (hs : s.size ≤ 60000) (hroom : sizeN s.size ≤ jsize m) (hnx : j.next ≤ 2148483648) (g1 : r.S.length = m.S.length) (g2 : r.wf)
    (hat : ∀ k, r.at k = if k = 1 - j.area then (secsF j.next (headB (1 - j.area))).getD 0 ByteArray.empty else if firstF m (1 - j.area) ≤ k ∧ k < firstF m (1 - j.area) + sizeN s.size then (secsF j.next s).getD (k - firstF m (1 - j.area)) ByteArray.empty else m.at k) :
    OnDisk r ⟨1 - j.area, s, [], j.next + 1, sizeN s.size, false⟩ j.next ∧ (∀ i, i < m.S.length → tail4 (r.at i) < j.next + 1) ∧ tail4 (r.at j.area) < j.next := by
  have hz := jsize_facts h.on.z
  have ha := h.on.area
  have hf := first_room h.on.z (area := 1 - j.area) (by omega)
  have hf2 := first_room h.on.z ha
  have hnl := h.on.nlt
  have hown : r.at j.area = m.at j.area := by rw [hat, if_neg (by omega), if_neg (by omega)]
  have hnum := head_num (m := m) (a := j.area) (by omega) h.on.head
  have hnum0 := h.on.num0
  refine ⟨based g2 (by rw [same_size g1]; exact h.on.z) (by omega) (by omega) hnx hs (by rw [same_size g1]; exact hroom) ?_ ?_ ?_ ?_, ?_, ?_⟩
  · rw [hat, if_pos rfl, ← head_secs]
  · intro k hk
    rw [same_first g1, hat, if_neg (by omega), if_pos (by omega)]
    congr 1; omega
  · intro hlt
    rw [same_size g1] at hlt
    rw [same_first g1, hat, if_neg (by omega), if_neg (by omega)]
    have h2 := h.all (firstF m (1 - j.area) + sizeN s.size) (by omega)
    have h3 := secNum_le_tail (DM.at_size h.on.wf (i := firstF m (1 - j.area) + sizeN s.size) (by omega))
    omega
  · rw [show 1 - (1 - j.area) = j.area by omega, hown, hnum]; exact hnl.2.1
  · intro k hk
    rw [hat]
    by_cases hk1 : k = 1 - j.area
    · rw [if_pos hk1, sec_tail (by omega) hnl.1 (by rw [headB_n]; omega)]; omega
    · rw [if_neg hk1]
      by_cases hk2 : firstF m (1 - j.area) ≤ k ∧ k < firstF m (1 - j.area) + sizeN s.size
      · rw [if_pos hk2, sec_tail (by omega) hnl.1 (by omega)]; omega
      · rw [if_neg hk2]; have := h.all k hk; omega
  · rw [hown, tail_of_num (by omega), hnum]; exact hnl.2.1
/-- What a Save leaves: all is there, or all is as ahead of it. -/
theorem save_law {m : DM} {j : JM} {num : Nat} (h : Loose m j num) (hd : m.dead = false) (hj : j.dead = false) (s : ByteArray) (hc : m.armed = true → OthFree m j num) :
    ∃ r, r = saveF m j s ∧ r.1.S.length = m.S.length ∧ r.1.wf ∧
    ((r.2.2 = 0 ∧ s.size ≤ 60000 ∧ r.1.dead = false ∧ (m.armed = false → r.1.armed = false) ∧ r.2.1 = ⟨1 - j.area, s, [], j.next + 1, sizeN s.size, false⟩ ∧
        sizeN s.size ≤ jsize m ∧ OnDisk r.1 r.2.1 j.next ∧ (∀ i, i < m.S.length → tail4 (r.1.at i) < j.next + 1) ∧ tail4 (r.1.at j.area) < j.next) ∨
     ((r.2.2 = 2 ∧ 60000 < s.size ∨ r.2.2 = 73 ∧ (s.size ≤ 60000 → j.next ≤ 2148483648 → jsize m < sizeN s.size)) ∧ r.1 = m ∧ r.2.1 = j) ∨
     (r.2.2 = 74 ∧ r.1.dead = true ∧ m.armed = true ∧
        ((OnDisk r.1 ⟨1 - j.area, s, [], j.next + 1, sizeN s.size, false⟩ j.next ∧ (∀ i, i < m.S.length → tail4 (r.1.at i) < j.next + 1) ∧ tail4 (r.1.at j.area) < j.next) ∨
         (Loose r.1 j num ∧ (OwnFree m j → OwnFree r.1 j))))) := by
  refine ⟨_, rfl, ?_⟩
  have hu := h.on.used
  have hz := jsize_facts h.on.z
  have ha := h.on.area
  have hf := first_room h.on.z (area := 1 - j.area) (by omega)
  have hf2 := first_room h.on.z ha
  have hnl := h.on.nlt
  have hroomj := h.on.room
  unfold saveF
  by_cases h1 : (j.may s (jsize m : Int)).2 = 0
  · obtain ⟨_, hs, hroom, hnx, _⟩ := may_ok h1
    have hroom : sizeN s.size ≤ jsize m := by omega
    have hW := writeF_spec h.on.wf hd (firstF m (1 - j.area)) j.next s (by omega) hs (by omega)
    rw [if_neg (by simpa using h1)]
    obtain ⟨r, hr⟩ : ∃ r, r = writeF m (firstF m (1 - j.area)) j.next s := ⟨_, rfl⟩
    rw [← hr] at hW
    obtain ⟨g1, g2, g3⟩ := hW
    rcases g3 with ⟨e1, e2, e3, _, e5⟩ | ⟨e1, e2, e3, i, p, e4, e5, e6⟩
    · have hW2 := writeF_spec g2 e2 (1 - j.area) j.next (headB (1 - j.area)) (by omega) (by rw [headB_size]; omega) (by rw [headB_n]; omega)
      obtain ⟨q, hq⟩ : ∃ q, q = writeF r.1 (1 - j.area : Nat) j.next (headB (1 - j.area)) := ⟨_, rfl⟩
      rw [← hq] at hW2
      have hBB : beginF m (1 - j.area) j.next s = q := by unfold beginF; rw [← hr, if_neg (by simpa using e1), hq]
      rw [hBB]
      rw [headB_n] at hW2
      obtain ⟨k1, k2, k3⟩ := hW2
      have k1' : q.1.S.length = m.S.length := by rw [k1, g1]
      rcases k3 with ⟨d1, d2, d3, _, d5⟩ | ⟨d1, d2, d3, i, p, d4, d5, d6⟩
      · rw [if_neg (by simpa using d1)]
        have hat : ∀ k, q.1.at k = if k = 1 - j.area then (secsF j.next (headB (1 - j.area))).getD 0 ByteArray.empty else if firstF m (1 - j.area) ≤ k ∧ k < firstF m (1 - j.area) + sizeN s.size then (secsF j.next s).getD (k - firstF m (1 - j.area)) ByteArray.empty else m.at k := fun k => by
          rw [d5 k]
          by_cases hk : k = 1 - j.area
          · rw [if_pos (by omega), if_pos hk, hk, Nat.sub_self]
          · rw [if_neg (by omega), if_neg hk]; exact e5 k
        obtain ⟨b1, b2, b3⟩ := based_on h s hs hroom hnx k1' k2 hat
        exact ⟨k1', k2, .inl ⟨rfl, hs, d2, fun h => d3 (e3 h), by rw [hj], hroom, by rw [hj]; exact b1, b2, b3⟩⟩
      · rw [if_pos (by rw [d1]; decide)]
        obtain rfl : i = 0 := by omega
        have hra : r.1.armed = true := d2
        have hma : m.armed = true := by
          cases hx : m.armed
          · have := e3 hx; rw [this] at hra; cases hra
          · rfl
        obtain ⟨o1, o2⟩ := hc hma
        have hro : r.1.at (1 - j.area) = m.at (1 - j.area) := by rw [e5, if_neg (by omega)]
        have hxs : (r.1.at (1 - j.area)).size = 256 := DM.at_size g2 (by omega)
        have hl0 : 0 < sizeN (headB (1 - j.area)).size := by rw [headB_n]; omega
        have hss : ((secsF j.next (headB (1 - j.area))).getD 0 ByteArray.empty).size = 256 := secsF_secsize _ (secsF_getD hl0)
        have hlaw := torn_num d5 hss hxs (by omega : 0 < j.next) (sec_num hnl.1 hl0) (by rw [hro]; omega)
        have htl := torn_tail d5 hss hxs (by rw [sec_tail (by omega) hnl.1 hl0, hro]; omega)
        rw [sec_tail (by omega) hnl.1 hl0] at htl
        refine ⟨k1', k2, .inr (.inr ⟨d1, d3, hma, ?_⟩)⟩
        rcases hlaw with hl | hl
        · left
          have hat : ∀ k, q.1.at k = if k = 1 - j.area then (secsF j.next (headB (1 - j.area))).getD 0 ByteArray.empty else if firstF m (1 - j.area) ≤ k ∧ k < firstF m (1 - j.area) + sizeN s.size then (secsF j.next s).getD (k - firstF m (1 - j.area)) ByteArray.empty else m.at k := fun k => by
            rw [d6 k]
            by_cases hk : k = 1 - j.area
            · rw [if_neg (by omega), if_pos (by omega), if_pos hk, hk, hl]
            · rw [if_neg (by omega), if_neg (by omega), if_neg hk]; exact e5 k
          exact based_on h s hs hroom hnx k1' k2 hat
        · right
          have hat : ∀ k, k ≠ 1 - j.area → q.1.at k = r.1.at k := fun k hk => by rw [d6 k, if_neg (by omega), if_neg (by omega)]
          refine ⟨⟨h.on.keep k1' k2 ?_ ?_ ?_ ?_, ?_⟩, ?_⟩
          · show q.1.at j.area = _
            rw [hat _ (by omega), e5, if_neg (by omega)]
          · intro k hk
            show q.1.at (firstF m j.area + k) = _
            have hne := areas (m := m) h.on.z ha (i := firstF m j.area + k) (by omega) (by omega)
            rw [hat _ (by omega), e5, if_neg (by omega)]
          · intro hlt
            show secNum (q.1.at (firstF m j.area + j.used)) ≠ j.next
            have hne := areas (m := m) h.on.z ha (i := firstF m j.area + j.used) (by omega) (by omega)
            rw [hat _ (by omega), e5, if_neg (by omega)]
            exact h.on.stop hlt
          · show secNum (q.1.at (1 - j.area)) < num
            rw [d6, if_neg (by omega), if_pos (by omega)]
            have := hl.1
            rw [hro] at this ⊢
            omega
          · intro k hk
            show tail4 (q.1.at k) ≤ j.next
            have hk : k < q.1.S.length := hk
            by_cases hk1 : k = 1 - j.area
            · rw [d6, if_neg (by omega), if_pos (by omega), hk1]; exact htl
            · rw [hat k hk1, e5]
              by_cases hk2 : firstF m (1 - j.area) ≤ k ∧ k < firstF m (1 - j.area) + sizeN s.size
              · rw [if_pos hk2, sec_tail (by omega) hnl.1 (by omega)]; exact Nat.le_refl _
              · rw [if_neg hk2]; exact h.all k (by omega)
          · intro hown k hk
            show tail4 (q.1.at (firstF q.1 j.area + k)) < j.next
            have hk : k < jsize q.1 := hk
            rw [same_size k1'] at hk
            have hne := areas (m := m) h.on.z ha (i := firstF m j.area + k) (by omega) (by omega)
            rw [same_first k1', hat _ (by omega), e5, if_neg (by omega)]
            exact hown k hk
    · have hBB : beginF m (1 - j.area) j.next s = r := by unfold beginF; rw [← hr, if_pos (by rw [e1]; decide)]
      rw [hBB, if_pos (by rw [e1]; decide)]
      obtain ⟨o1, o2⟩ := hc e2
      refine ⟨g1, g2, .inr (.inr ⟨e1, e3, e2, .inr ?_⟩)⟩
      have hxs : (m.at (firstF m (1 - j.area) + i)).size = 256 := DM.at_size h.on.wf (by omega)
      have hss : ((secsF j.next s).getD i ByteArray.empty).size = 256 := secsF_secsize _ (secsF_getD e4)
      have htl := torn_tail e5 hss hxs (by rw [sec_tail (by omega) hnl.1 e4]; exact o1 i (by omega))
      rw [sec_tail (by omega) hnl.1 e4] at htl
      refine ⟨⟨h.on.keep g1 g2 ?_ ?_ ?_ ?_, ?_⟩, ?_⟩
      · show r.1.at j.area = _
        rw [e6, if_neg (by omega), if_neg (by omega)]
      · intro k hk
        show r.1.at (firstF m j.area + k) = _
        have hne := areas (m := m) h.on.z ha (i := firstF m j.area + k) (by omega) (by omega)
        rw [e6, if_neg (by omega), if_neg (by omega)]
      · intro hlt
        show secNum (r.1.at (firstF m j.area + j.used)) ≠ j.next
        have hne := areas (m := m) h.on.z ha (i := firstF m j.area + j.used) (by omega) (by omega)
        rw [e6, if_neg (by omega), if_neg (by omega)]
        exact h.on.stop hlt
      · show secNum (r.1.at (1 - j.area)) < num
        rw [e6, if_neg (by omega), if_neg (by omega)]
        exact h.on.other
      · intro k hk
        show tail4 (r.1.at k) ≤ j.next
        have hk : k < r.1.S.length := hk
        rw [e6 k]
        by_cases hk2 : firstF m (1 - j.area) + i < k ∧ k < firstF m (1 - j.area) + sizeN s.size
        · rw [if_pos hk2, sec_tail (by omega) hnl.1 (by omega)]; exact Nat.le_refl _
        · rw [if_neg hk2]
          by_cases hk3 : k = firstF m (1 - j.area) + i
          · rw [if_pos hk3, hk3]; exact htl
          · rw [if_neg hk3]; exact h.all k (by omega)
      · intro hown k hk
        show tail4 (r.1.at (firstF r.1 j.area + k)) < j.next
        have hk : k < jsize r.1 := hk
        rw [same_size g1] at hk
        have hne := areas (m := m) h.on.z ha (i := firstF m j.area + k) (by omega) (by omega)
        rw [same_first g1, e6, if_neg (by omega), if_neg (by omega)]
        exact hown k hk
  · rw [if_pos (by simpa using h1)]
    refine ⟨rfl, h.on.wf, .inr (.inl ⟨?_, rfl, rfl⟩)⟩
    show ((j.may s (jsize m : Int)).2 = 2 ∧ _) ∨ ((j.may s (jsize m : Int)).2 = 73 ∧ _)
    unfold JM.may fitsF at h1 ⊢
    rw [hj] at h1 ⊢
    simp only [Bool.false_eq_true, if_false] at h1 ⊢
    by_cases c1 : 60000 < s.size
    · left; simp only [if_pos c1]; exact ⟨by simp, c1⟩
    · right
      simp only [if_neg c1] at h1 ⊢
      by_cases c2 : (jsize m : Int) < (sizeN s.size : Int)
      · simp only [if_pos c2]; exact ⟨by simp, fun _ _ => by omega⟩
      · simp only [if_neg c2] at h1 ⊢
        by_cases c3 : 2148483648 < j.next
        · rw [if_pos ⟨trivial, c3⟩]; exact ⟨rfl, fun _ h => by omega⟩
        · rw [if_neg (fun hh => c3 hh.2)] at h1; exact absurd rfl h1
end Go.Proofs.YtcakellhellddaaGreatDoor
namespace Go.Proofs.YtcakellhellddaaGreatDoor
/-- Each sector's last bytes are its number. -/
def WholeM (m : DM) : Prop := ∀ i, i < m.S.length → tail4 (m.at i) = secNum (m.at i)
theorem topN_le {m : DM} {t : Nat} : ∀ n : Nat, (∀ i, i < n → secNum (m.at i) ≤ t) → topN m n ≤ t
  | 0, _ => Nat.zero_le _
  | n + 1, h => by
    unfold topN
    have h1 := topN_le n (fun i hi => h i (by omega))
    have h2 := h n (by omega)
    omega
theorem le_topN (m : DM) : ∀ n i : Nat, i < n → secNum (m.at i) ≤ topN m n
  | 0, _, h => by omega
  | n + 1, i, h => by
    unfold topN
    by_cases hi : i = n
    · subst hi; omega
    · have := le_topN m n i (by omega); omega
theorem format_law {m : DM} (hwf : m.wf) (hz : jsize m ≠ 0) (hd : m.dead = false) (ha : m.armed = false) (base : ByteArray) (hs : base.size ≤ 60000) (hroom : sizeN base.size ≤ jsize m) (hw : WholeM m) (ht : topN m m.S.length ≤ 2147483648) :
    ∃ r, formatF m base = (r, some ⟨0, base, [], topN m m.S.length + 2, sizeN base.size, false⟩, 0) ∧ r.S.length = m.S.length ∧ r.dead = false ∧ r.armed = false ∧ (0 ≤ m.writes → m.writes ≤ 1000000000 → 0 ≤ r.writes ∧ r.writes ≤ m.writes + 5000) ∧
      Tight r ⟨0, base, [], topN m m.S.length + 2, sizeN base.size, false⟩ (topN m m.S.length + 1) ∧ WholeM r := by
  obtain ⟨t, htt⟩ : ∃ t, t = topN m m.S.length := ⟨_, rfl⟩
  have hall : ∀ i, i < m.S.length → tail4 (m.at i) ≤ t := fun i hi => by rw [hw i hi, htt]; exact le_topN m _ i hi
  have hzf := jsize_facts hz
  have hf := first_room hz (area := 0) (by omega)
  unfold formatF
  rw [← htt] at ht ⊢
  have hfit : fitsF base (jsize m) = ((sizeN base.size : Int), 0) := by unfold fitsF; rw [if_neg (by omega), if_neg (by omega)]
  rw [if_neg hz, hfit, if_neg (by simp), hd, if_neg (by simp), if_neg (by omega)]
  have hW := writeF_spec hwf hd (firstF m 0) (t + 1) base (by omega) hs (by omega)
  unfold beginF
  obtain ⟨r, hr⟩ : ∃ r, r = writeF m (firstF m 0) (t + 1) base := ⟨_, rfl⟩
  rw [← hr] at hW ⊢
  obtain ⟨g1, g2, g3⟩ := hW
  rcases g3 with ⟨e1, e2, e3, e4, e5⟩ | ⟨_, e2, _⟩
  · have hW2 := writeF_spec g2 e2 0 (t + 1) (headB 0) (by omega) (by rw [headB_size]; omega) (by rw [headB_n]; omega)
    obtain ⟨q, hq⟩ : ∃ q, q = writeF r.1 (0 : Nat) (t + 1) (headB 0) := ⟨_, rfl⟩
    rw [← hq] at hW2
    have hq' : writeF r.1 ((0 : Nat) : Int) (t + 1) (headB 0) = q := hq.symm
    rw [headB_n] at hW2
    obtain ⟨k1, k2, k3⟩ := hW2
    have k1' : q.1.S.length = m.S.length := by rw [k1, g1]
    have hjz : jsize q.1 = jsize m := same_size k1'
    have hff : firstF q.1 0 = firstF m 0 := same_first k1' 0
    rcases k3 with ⟨d1, d2, d3, d4, d5⟩ | ⟨_, d2, _⟩
    · have hat : ∀ k, q.1.at k = if k = 0 then (secsF (t + 1) (headB 0)).getD 0 ByteArray.empty else if firstF m 0 ≤ k ∧ k < firstF m 0 + sizeN base.size then (secsF (t + 1) base).getD (k - firstF m 0) ByteArray.empty else m.at k := fun k => by
        rw [d5 k]
        by_cases hk : k = 0
        · rw [if_pos (by omega), if_pos hk, hk]
        · rw [if_neg (by omega), if_neg hk]; exact e5 k
      have hone : 0 < sizeN (headB 0).size := by rw [headB_n]; omega
      refine ⟨q.1, ?_, k1', d2, d3 (e3 ha), ?_, ⟨?_, ?_, ?_⟩, ?_⟩
      · rw [if_neg (show ¬ ((if r.2 ≠ 0 then r else writeF r.1 ((0 : Nat) : Int) (t + 1) (headB 0)).2 ≠ 0) by rw [if_neg (by simpa using e1), hq']; simpa using d1), if_neg (by simpa using e1), hq']
      · intro w0 w1
        have hle := sizeN_le hs
        have := e4 w0 (by omega)
        have := d4 (by omega) (by omega)
        omega
      · refine based k2 (by rw [hjz]; exact hz) (by omega) (by omega) (by omega) hs (by rw [hjz]; exact hroom) ?_ ?_ ?_ ?_
        · rw [hat, if_pos rfl, ← head_secs]
        · intro k hk
          rw [hff, hat, if_neg (by omega), if_pos (by omega)]
          congr 1; omega
        · intro hlt
          rw [hjz] at hlt
          rw [hff, hat, if_neg (by omega), if_neg (by omega)]
          have h2 := hall (firstF m 0 + sizeN base.size) (by omega)
          have h3 := secNum_le_tail (DM.at_size hwf (i := firstF m 0 + sizeN base.size) (by omega))
          omega
        · rw [hat, if_neg (by omega), if_neg (by omega)]
          have h2 := hall (1 - 0) (by omega)
          have h3 := secNum_le_tail (DM.at_size hwf (i := 1 - 0) (by omega))
          omega
      · intro k hk
        show tail4 (q.1.at k) < t + 2
        have hk : k < q.1.S.length := hk
        rw [hat]
        by_cases hk1 : k = 0
        · rw [if_pos hk1, sec_tail (by omega) (by omega) hone]; omega
        · rw [if_neg hk1]
          by_cases hk2 : firstF m 0 ≤ k ∧ k < firstF m 0 + sizeN base.size
          · rw [if_pos hk2, sec_tail (by omega) (by omega) (by omega)]; omega
          · rw [if_neg hk2]; have := hall k (by omega); omega
      · show tail4 (q.1.at (1 - 0)) < t + 1
        rw [hat, if_neg (by omega), if_neg (by omega)]
        have := hall (1 - 0) (by omega); omega
      · intro k hk
        rw [hat]
        by_cases hk1 : k = 0
        · rw [if_pos hk1, sec_tail (by omega) (by omega) hone, sec_num (by omega) hone]
        · rw [if_neg hk1]
          by_cases hk2 : firstF m 0 ≤ k ∧ k < firstF m 0 + sizeN base.size
          · rw [if_pos hk2, sec_tail (by omega) (by omega) (by omega), sec_num (by omega) (by omega)]
          · rw [if_neg hk2]; exact hw k (by omega)
    · have := e3 ha
      rw [d2] at this; cases this
  · rw [ha] at e2; cases e2
/-- Whole sectors stay whole where no write is cut off. -/
theorem wrF_whole (at_ : Int) (l : List ByteArray) (hl : ∀ x ∈ l, tail4 x = secNum x) : ∀ (n : Nat) (m : DM), WholeM m → m.armed = false → n ≤ l.length → WholeM (wrF m at_ l n).1
  | 0, m, h, _, _ => h
  | n + 1, m, h, ha, hn => by
    have hx : tail4 (l.getD n ByteArray.empty) = secNum (l.getD n ByteArray.empty) := by rw [List.getD_eq_getElem?_getD, List.getElem?_eq_getElem (by omega : n < l.length)]; exact hl _ (List.getElem_mem _)
    have hw : WholeM (m.write (at_ + n) (l.getD n ByteArray.empty)).1 ∧ (m.write (at_ + n) (l.getD n ByteArray.empty)).1.armed = false := by
      unfold DM.write
      split
      · exact ⟨h, ha⟩
      · rename_i hm
        have hm : m.may (at_ + n) = 0 := by simpa using hm
        obtain ⟨_, h0, h1⟩ := DM.good_of_may hm
        split
        · exact ⟨h, ha⟩
        · rw [if_neg (by unfold DM.cuts; rw [ha]; simp)]
          refine ⟨fun i hi => ?_, ha⟩
          have hi : i < (m.S.set (at_ + n).toNat (l.getD n ByteArray.empty)).length := hi
          rw [List.length_set] at hi
          show tail4 ((m.S.set _ _).getD i _) = secNum ((m.S.set _ _).getD i _)
          rw [at_set _ _ _ _ (by omega)]
          by_cases hc : i = (at_ + n).toNat
          · rw [if_pos hc]; exact hx
          · rw [if_neg hc]; exact h i hi
    unfold wrF
    split
    · exact hw.1
    · exact wrF_whole at_ l hl n _ hw.1 hw.2 (by omega)
theorem writeF_whole {m : DM} (h : WholeM m) (ha : m.armed = false) (at_ : Int) (num : Nat) (hn : num < 4294967296) (s : ByteArray) : WholeM (writeF m at_ num s).1 := by
  unfold writeF
  split
  · exact h
  · rename_i he
    refine wrF_whole at_ _ (fun x hx => ?_) _ m h ha (Nat.le_refl _)
    unfold makeF at hx he
    by_cases h0 : num = 0
    · rw [if_pos h0] at hx; cases hx
    · rw [if_neg h0] at hx
      by_cases h1 : 60000 < s.size
      · rw [if_pos h1] at hx; cases hx
      · rw [if_neg h1] at hx
        have := secsF_num hn hx
        exact tail_of_num (by omega)
theorem wrF_unarmed (at_ : Int) (l : List ByteArray) : ∀ (n : Nat) (m : DM), m.armed = false → (wrF m at_ l n).1.armed = false
  | 0, m, ha => ha
  | n + 1, m, ha => by
    have hw : (m.write (at_ + n) (l.getD n ByteArray.empty)).1.armed = false := by
      unfold DM.write
      split
      · exact ha
      · split
        · exact ha
        · split
          · rfl
          · exact ha
    unfold wrF
    split
    · exact hw
    · exact wrF_unarmed at_ l n _ hw
theorem writeF_unarmed {m : DM} (ha : m.armed = false) (at_ : Int) (num : Nat) (s : ByteArray) : (writeF m at_ num s).1.armed = false := by
  unfold writeF
  split
  · exact ha
  · exact wrF_unarmed _ _ _ _ ha
theorem appendF_whole {m : DM} (h : WholeM m) (ha : m.armed = false) {j : JM} (hn : j.next < 4294967296) (s : ByteArray) : WholeM (appendF m j s).1 := by
  unfold appendF
  split
  · exact h
  · split
    · exact writeF_whole h ha _ _ hn _
    · exact writeF_whole h ha _ _ hn _
theorem beginF_whole {m : DM} (h : WholeM m) (ha : m.armed = false) (area num : Nat) (hn : num < 4294967296) (s : ByteArray) : WholeM (beginF m area num s).1 := by
  unfold beginF
  split
  · exact writeF_whole h ha _ _ hn _
  · exact writeF_whole (writeF_whole h ha _ _ hn _) (writeF_unarmed ha _ _ _) _ _ hn _
theorem saveF_whole {m : DM} (h : WholeM m) (ha : m.armed = false) {j : JM} (hn : j.next < 4294967296) (s : ByteArray) : WholeM (saveF m j s).1 := by
  unfold saveF
  split
  · exact h
  · split
    · exact beginF_whole h ha _ _ hn _
    · exact beginF_whole h ha _ _ hn _
theorem dNew_at {n i : Nat} (hi : i < n) : (dNew n).at i = zs := by
  unfold DM.at dNew
  rw [List.getD_eq_getElem?_getD, List.getElem?_replicate, if_pos hi]; rfl
theorem zs_tail : tail4 zs = 0 := by unfold tail4 zs; decide
theorem dNew_whole (n : Nat) : WholeM (dNew n) := fun i hi => by
  have hi : i < n := by simpa [dNew] using hi
  rw [dNew_at hi, zs_tail]
  have := secNum_le_tail zs_size
  rw [zs_tail] at this
  omega
theorem dNew_top (n : Nat) : topN (dNew n) (dNew n).S.length = 0 := by
  have : topN (dNew n) (dNew n).S.length ≤ 0 := topN_le _ (fun i hi => by
    have hi' := dNew_whole n i hi
    have hi : i < n := by simpa [dNew] using hi
    rw [dNew_at hi] at hi' ⊢
    rw [← hi', zs_tail]; exact Nat.le_refl _)
  omega
end Go.Proofs.YtcakellhellddaaGreatDoor
