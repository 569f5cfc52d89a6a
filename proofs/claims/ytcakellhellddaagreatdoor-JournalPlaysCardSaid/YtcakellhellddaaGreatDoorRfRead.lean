import Derived.Test.YtcakellhellddaaGreatDoorFrRead
import Derived.Test.YtcakellhellddaaGreatDoorRfMake
import Derived.Test.YtcakellhellddaaGreatDoorFrPlain2
set_option linter.unusedSimpArgs false
set_option linter.unusedVariables false
namespace Go.Proofs.YtcakellhellddaaGreatDoor
open Go.RowKit
/-- What the reference's reading hands back. -/
def gotS (r : ByteArray × Nat × Bool) : Ending := .returned (.agg #[.string r.1, .int .i64 (r.2.1 : Int), .bool r.2.2])
theorem gotS_ret {R : Ending → World → Prop} {a : Act} {w : World} {b : Nat} {x y z : Value} {t : TypeId} (hd : a.defers = []) (hp : a.tmps.getD 4 undef = .pointer (some ⟨b, 0, none⟩)) (hb : Blk w b #[x, y, z] t)
    (h : R (.returned (.agg #[x, y, z])) w) : bodyPost Tryz.prog Tryz.f52 R .ret a w :=
  bodyPost_ret (results_cell_row rfl _ _ b t _ (0, 0) _ hp hb.out Tryz.underlying88 rfl (by kernel_rfl)) hd h
theorem rfRead_none (v : Value) (hv : ∃ a c, v = .slice a 0 c) (num : Nat) (w : World) : Calls Tryz.prog 52 #[v, .int .u32 num] w fun e w' => e = gotS none3 ∧ Below w.heap.size w w' := by
  obtain ⟨a, c, rfl⟩ := hv
  go_enter Tryz.func52, Tryz.ntmps52
  go_wp2
  exact gotS_ret rfl rfl (Blk.new _ _ _) ⟨rfl, (Below.refl _ _).alloc (Nat.le_refl _) _⟩
theorem count_eq (x : ByteArray) (hx : x.size = 256) : Lib.leNat (x.extract 6 8).data.toList = countF x := by
  unfold countF numF
  rw [extract_list, extract_list, hx, List.take_take]
  rfl
theorem wholeF_snoc (l : List ByteArray) (i : Nat) (hi : i < l.length) : wholeF l (i + 1) = wholeF l i ++ (l.getD i ByteArray.empty).extract 8 252 := by
  apply ByteArray.ext
  apply Array.toList_inj.1
  rw [wholeF_succ l i hi, ByteArray.data_append, Array.toList_append]
theorem num4_eq (A : ByteArray) : Lib.leNat (A.extract 0 4).data.toList = numF 4 A := by
  unfold numF; rw [extract_list]; simp
theorem num4_at (A : ByteArray) (e : Nat) (h : e + 4 ≤ A.size) : Lib.leNat (A.extract e (e + 4)).data.toList = numF 4 (A.extract e A.size) := by
  unfold numF
  rw [extract_list, extract_list, List.take_take]
  congr 2; omega
theorem rest_eq (x : ByteArray) : (x.toList == (⟨Array.replicate x.size 0⟩ : ByteArray).toList) = x.data.toList.all (· == 0) := by
  rw [ba_toList_beq]
  obtain ⟨⟨l⟩⟩ := x
  show decide (l = (Array.replicate l.length (0 : UInt8)).toList) = l.all (· == 0)
  rw [Array.toList_replicate, Bool.eq_iff_iff, decide_eq_true_iff, List.all_eq_true]
  constructor
  · intro h x hx
    rw [h] at hx
    simp [List.eq_of_mem_replicate hx]
  · intro h
    exact List.eq_replicate_of_mem (fun x hx => by simpa using h x hx)
def zrow : Array Value := #[.string ⟨#[]⟩, .int .i64 0, .bool false]
theorem zrow_facts {w : World} {n : Nat} {t : TypeId} (h : Blk w n zrow t) : w.cell? ⟨n, 0, none⟩ = some (.string ⟨#[]⟩) ∧ w.cell? ⟨n, 1, none⟩ = some (.int .i64 0) ∧ w.cell? ⟨n, 2, none⟩ = some (.bool false) ∧
    w.frozen? ⟨n, 0, none⟩ = false ∧ w.frozen? ⟨n, 1, none⟩ = false ∧ w.frozen? ⟨n, 2, none⟩ = false := ⟨h.cell 0, h.cell 1, h.cell 2, h.free 0, h.free 1, h.free 2⟩
theorem put3 {w : World} {n : Nat} {t : TypeId} (h : Blk w n zrow t) (x y z : Value) : Blk (((w.setCell ⟨n, 0, none⟩ x).setCell ⟨n, 1, none⟩ y).setCell ⟨n, 2, none⟩ z) n #[x, y, z] t := ((h.setCell 0 x).setCell 1 y).setCell 2 z
theorem below3 {w w' : World} {n : Nat} (h : Below n w w') (x y z : Value) : Below n w (((w'.setCell ⟨n, 0, none⟩ x).setCell ⟨n, 1, none⟩ y).setCell ⟨n, 2, none⟩ z) :=
  ((h.setCell (p := ⟨n, 0, none⟩) (Nat.le_refl _) x).setCell (p := ⟨n, 1, none⟩) (Nat.le_refl _) y).setCell (p := ⟨n, 2, none⟩) (Nat.le_refl _) z
set_option maxRecDepth 100000 in
set_option maxHeartbeats 4000000 in
theorem rfRead_some (l : List ByteArray) (hl : 0 < l.length) (hl2 : l.length ≤ 60000) (hsz : ∀ x ∈ l, x.size ≤ 100000) (b o cap num : Nat) (h0 : 0 < num) (hn : num < 4294967296) (hcap : l.length ≤ cap) (w : World)
    (hb : b < w.heap.size) (hc : ∀ (j : Nat) x, l[j]? = some x → w.cell? ⟨b, o + j, none⟩ = some (.string x)) :
    Calls Tryz.prog 52 #[.slice (some ⟨b, o, none⟩) l.length cap, .int .u32 num] w fun e w' => e = gotS (readF l num) ∧ Below w.heap.size w w' := by
  have hz : ((num : Int) == 0) = false := by simpa using (by omega : ¬ ((num : Int) = 0))
  have hlz : ((l.length : Int) == 0) = false := by simpa using (by omega : ¬ ((l.length : Int) = 0))
  obtain ⟨x0, hx0⟩ : ∃ x, l[0]? = some x := ⟨l[0], List.getElem?_eq_getElem hl⟩
  have hhd : l.headD ByteArray.empty = x0 := by cases l with
    | nil => simp at hl
    | cons a l => simpa using hx0
  have hx0m : x0 ∈ l := List.mem_of_getElem? hx0
  have hx0s := hsz x0 hx0m
  have c0 : w.cell? ⟨b, o, none⟩ = some (.string x0) := hc 0 x0 hx0
  have HC := Lib.hid hc
  have HSZ := Lib.hid hsz
  have HHD := Lib.hid hhd
  clear hc hsz hhd hx0m hx0
  go_enter Tryz.func52, Tryz.ntmps52
  have ca : (w.alloc (.cells #[.string ⟨#[]⟩, .int .i64 0, .bool false] 88)).cell? ⟨b, o, none⟩ = some (.string x0) := (World.cell?_alloc_lt _ _ _ hb).trans c0
  go_wp2_with fail
  refine (rfNum_any x0 (by simp [maxLen]; omega) _).mono ?_
  rintro e w1 ⟨rfl, hb1⟩
  have HB1 : Hid (Below w.heap.size w w1) := Lib.hid (((Below.refl _ _).alloc (Nat.le_refl _) _).trans (hb1.mono (by simp)))
  have HZ1 : Hid (Blk w1 w.heap.size zrow 88) := Lib.hid ((Blk.new w zrow 88).below hb1 (by simp))
  clear hb1 ca
  by_cases hn0 : secNum x0 = num
  · have hne : ((secNum x0 : Int) != (num : Int)) = false := by rw [hn0]; simp
    have hs0 : x0.size = 256 := secNum_size (by omega)
    have p6 : (6 : Int) ≤ (x0.size : Int) := by omega
    have p8 : (8 : Int) ≤ (x0.size : Int) := by omega
    have c1 : w1.cell? ⟨b, o, none⟩ = some (.string x0) := (HB1.out.cell (p := ⟨b, o, none⟩) hb).trans c0
    have HN0 := Lib.hid hn0
    have HS0 := Lib.hid hs0
    clear c0 hn0 hs0 hx0s
    go_wp2_with fail
    refine (rfNumber_any (x0.extract 6 8) (by rw [ByteArray.size_extract]; omega) w1).mono ?_
    rintro e w2 ⟨rfl, hw2⟩
    have hw2 := hw2.symm
    subst hw2
    rw [count_eq x0 HS0.out]
    have hlt : countF x0 < 65536 := numF_lt 2 _
    obtain ⟨n, hnn⟩ : ∃ r, r = countF x0 := ⟨_, rfl⟩
    rw [← hnn] at hlt ⊢
    have HNN := Lib.hid hnn
    clear hnn c1 p6 p8 hne
    by_cases hn1 : n < 1
    · have hbad : Hid (readF l num = none3) := Lib.hid (by unfold readF; rw [HHD.out, if_neg (by rintro (h | h | h); omega; (subst h; simp at hl); exact h HN0.out), ← HNN.out, if_pos (.inl hn1)])
      obtain ⟨z0, z1, z2, y0, y1, y2⟩ := zrow_facts HZ1.out
      go_wp2_with fail
      exact gotS_ret rfl rfl (put3 HZ1.out _ _ _) ⟨by rw [hbad.out]; rfl, below3 HB1.out _ _ _⟩
    by_cases hn2 : l.length < n
    · have hbad : Hid (readF l num = none3) := Lib.hid (by unfold readF; rw [HHD.out, if_neg (by rintro (h | h | h); omega; (subst h; simp at hl); exact h HN0.out), ← HNN.out, if_pos (.inr hn2)])
      obtain ⟨z0, z1, z2, y0, y1, y2⟩ := zrow_facts HZ1.out
      go_wp2_with fail
      exact gotS_ret rfl rfl (put3 HZ1.out _ _ _) ⟨by rw [hbad.out]; rfl, below3 HB1.out _ _ _⟩
    have hr : Hid (readF l num = if (List.range n).all (fun i => pieceOk num n i (l.getD i ByteArray.empty)) then tailF n (wholeF l n) else none3) := Lib.hid (by unfold readF; rw [HHD.out, if_neg (by rintro (h | h | h); omega; (subst h; simp at hl); exact h HN0.out), ← HNN.out, if_neg (by omega)])
    have q1 : (n : Int) ≤ (l.length : Int) := by omega
    clear HNN
    go_wp2_with fail
    go_loopw [6, 7] (fun y x wr => ∃ i : Nat, i ≤ n ∧ x = .int .i64 i ∧ y = .string (wholeF l i) ∧ Below w.heap.size w wr ∧ Blk wr w.heap.size zrow 88 ∧ (∀ j, j < i → pieceOk num n j (l.getD j ByteArray.empty) = true)) (fun _ x _ => n - (intOf x).toNat)
    case atStart => exact ⟨0, Nat.zero_le _, rfl, rfl, HB1.out, HZ1.out, fun j hj => by omega⟩
    case round =>
      obtain ⟨i, hi, rfl, rfl, hB, hZ, hA⟩ := hrel
      have HB := Lib.hid hB
      have HZ := Lib.hid hZ
      have HA := Lib.hid hA
      clear hB hZ hA HB1 HZ1
      have hws := wholeF_size l i (by omega) (fun j hj => by
        have h1 := HA.out j hj
        unfold pieceOk at h1
        simp only [Bool.and_eq_true, decide_eq_true_eq] at h1
        exact secNum_size (by omega))
      by_cases hlt : i < n
      · obtain ⟨x, hx⟩ : ∃ x, l[i]? = some x := ⟨l[i], List.getElem?_eq_getElem (by omega)⟩
        have hgd : l.getD i ByteArray.empty = x := by rw [List.getD_eq_getElem?_getD, hx]; rfl
        have ci : wr.cell? ⟨b, o + i, none⟩ = some (.string x) := (HB.out.cell (p := ⟨b, o + i, none⟩) hb).trans (HC.out i x hx)
        have hxs := HSZ.out x (List.mem_of_getElem? hx)
        have HGD := Lib.hid hgd
        have HX := Lib.hid hx
        have HWL := Lib.hid hws
        clear hgd hx hws
        go_wp2_with fail
        refine (rfNum_any x (by simp [maxLen]; omega) _).mono ?_
        rintro e w4 ⟨rfl, hb4⟩
        have HB4 := Lib.hid (HB.out.trans (hb4.mono HB.out.size))
        have HZ4 := Lib.hid (HZ.out.below hb4 HZ.out.lt)
        clear hb4 ci
        by_cases hni : secNum x = num
        · have hne : ((secNum x : Int) != (num : Int)) = false := by rw [hni]; simp
          have hs1 : x.size = 256 := secNum_size (by omega)
          have p6 : (6 : Int) ≤ (x.size : Int) := by omega
          have p8 : (8 : Int) ≤ (x.size : Int) := by omega
          have ci : w4.cell? ⟨b, o + i, none⟩ = some (.string x) := (HB4.out.cell (p := ⟨b, o + i, none⟩) hb).trans (HC.out i x HX.out)
          have hpc := piece_iff x hs1 i n (by omega) (by omega)
          have HNI := Lib.hid hni
          have HS1 := Lib.hid hs1
          have HPC := Lib.hid hpc
          clear hni hs1 hpc
          go_wp2_with fail
          refine (rfNumber_any (x.extract 4 6) (by rw [ByteArray.size_extract]; omega) w4).mono ?_
          rintro e w5 ⟨rfl, hw5⟩
          have hw5 := hw5.symm
          subst hw5
          obtain ⟨i1, hi1⟩ : ∃ r, r = Lib.leNat (x.extract 4 6).data.toList := ⟨_, rfl⟩
          rw [← hi1]
          have HI1 := Lib.hid hi1
          clear hi1
          by_cases hii : i1 = i
          · have hne1 : ((i1 : Int) != (i : Int)) = false := by rw [hii]; simp
            have HII := Lib.hid hii
            clear hii
            go_wp2_with fail
            refine (rfNumber_any (x.extract 6 8) (by rw [ByteArray.size_extract]; omega) w4).mono ?_
            rintro e w5 ⟨rfl, hw5⟩
            have hw5 := hw5.symm
            subst hw5
            obtain ⟨n1, hn1⟩ : ∃ r, r = Lib.leNat (x.extract 6 8).data.toList := ⟨_, rfl⟩
            rw [← hn1]
            have HN1 := Lib.hid hn1
            clear hn1
            by_cases hnn : n1 = n
            · have hne2 : ((n1 : Int) != (n : Int)) = false := by rw [hnn]; simp
              have HNN := Lib.hid hnn
              clear hnn
              have p9 : (252 : Int) ≤ (x.size : Int) := by have := HS1.out; omega
              obtain ⟨y, hy⟩ : ∃ y, y = wholeF l i := ⟨_, rfl⟩
              have hys : ¬ 9223372036854775807 < y.size + (252 - 8) := by rw [hy, HWL.out]; omega
              rw [← hy]
              have HY := Lib.hid hy
              clear hy
              go_wp2_with fail
              refine ⟨⟨i + 1, by omega, by go_num, ?_, HB4.out, HZ4.out, ?_⟩, ?_⟩
              · rw [wholeF_snoc l i (by omega), HGD.out, HY.out]
              · intro j hj
                by_cases hji : j < i
                · exact HA.out j hji
                · have hji : j = i := by omega
                  rw [hji, HGD.out]
                  unfold pieceOk
                  rw [HPC.out, HNI.out, ← HI1.out, ← HN1.out, HII.out, HNN.out]; simp
              · simp [intOf]; omega
            · have hne2 : ((n1 : Int) != (n : Int)) = true := by simpa using (by omega : ¬ ((n1 : Int) = (n : Int)))
              have hbad : Hid (readF l num = none3) := Lib.hid (by
                rw [hr.out, if_neg]
                intro hall
                rw [List.all_eq_true] at hall
                have := hall i (List.mem_range.2 hlt)
                rw [HGD.out] at this
                unfold pieceOk at this
                rw [HPC.out, ← HN1.out] at this
                simp [hnn] at this)
              clear hnn
              obtain ⟨z0, z1, z2, y0, y1, y2⟩ := zrow_facts HZ4.out
              go_wp2_with fail
              exact gotS_ret rfl rfl (put3 HZ4.out _ _ _) ⟨by rw [hbad.out]; rfl, below3 HB4.out _ _ _⟩
          · have hne1 : ((i1 : Int) != (i : Int)) = true := by simpa using (by omega : ¬ ((i1 : Int) = (i : Int)))
            have hbad : Hid (readF l num = none3) := Lib.hid (by
              rw [hr.out, if_neg]
              intro hall
              rw [List.all_eq_true] at hall
              have := hall i (List.mem_range.2 hlt)
              rw [HGD.out] at this
              unfold pieceOk at this
              rw [HPC.out, ← HI1.out] at this
              simp [hii] at this)
            clear hii
            obtain ⟨z0, z1, z2, y0, y1, y2⟩ := zrow_facts HZ4.out
            go_wp2_with fail
            exact gotS_ret rfl rfl (put3 HZ4.out _ _ _) ⟨by rw [hbad.out]; rfl, below3 HB4.out _ _ _⟩
        · have hne : ((secNum x : Int) != (num : Int)) = true := by simpa using (by omega : ¬ ((secNum x : Int) = (num : Int)))
          have hbad : Hid (readF l num = none3) := Lib.hid (by
            rw [hr.out, if_neg]
            intro hall
            rw [List.all_eq_true] at hall
            have := hall i (List.mem_range.2 hlt)
            rw [HGD.out] at this
            unfold pieceOk at this
            simp [hni] at this)
          clear hni
          obtain ⟨z0, z1, z2, y0, y1, y2⟩ := zrow_facts HZ4.out
          go_wp2_with fail
          exact gotS_ret rfl rfl (put3 HZ4.out _ _ _) ⟨by rw [hbad.out]; rfl, below3 HB4.out _ _ _⟩
      · have hin : i = n := by omega
        subst hin
        have hall : (List.range i).all (fun j => pieceOk num i j (l.getD j ByteArray.empty)) = true := by
          rw [List.all_eq_true]
          intro j hj
          exact HA.out j (List.mem_range.1 hj)
        have hr2 : Hid (readF l num = tailF i (wholeF l i)) := Lib.hid (by rw [hr.out, if_pos hall])
        clear hall hr HA
        obtain ⟨A, hA⟩ : ∃ A, A = wholeF l i := ⟨_, rfl⟩
        rw [← hA] at hws hr2 ⊢
        have HWS := Lib.hid hws
        have p4 : (4 : Int) ≤ (A.size : Int) := by omega
        clear hA hws
        go_wp2_with fail
        refine (rfNumber_any (A.extract 0 4) (by rw [ByteArray.size_extract]; omega) wr).mono ?_
        rintro e w5 ⟨rfl, hw5⟩
        have hw5 := hw5.symm
        subst hw5
        rw [num4_eq]
        have hz4 : numF 4 A < 4294967296 := numF_lt 4 A
        obtain ⟨z, hzz⟩ : ∃ z, z = numF 4 A := ⟨_, rfl⟩
        rw [← hzz] at hz4 ⊢
        have HZZ := Lib.hid hzz
        clear hzz p4
        by_cases hz6 : 60000 < z
        · have hbad : Hid (readF l num = none3) := Lib.hid (by rw [hr2.out]; unfold tailF; rw [← HZZ.out, if_pos (.inl hz6)])
          have z6 : (60000 : Int) < (z : Int) := by omega
          clear hz6
          obtain ⟨z0, z1, z2, y0, y1, y2⟩ := zrow_facts HZ.out
          go_wp2_with fail
          exact gotS_ret rfl rfl (put3 HZ.out _ _ _) ⟨by rw [hbad.out]; rfl, below3 HB.out _ _ _⟩
        have z6 : ¬ (60000 : Int) < (z : Int) := by omega
        go_wp2_with fail
        refine (rfSize_any (z : Int) _).mono ?_
        rintro e w9 ⟨rfl, hw9⟩
        have hw9 := hw9.symm
        subst hw9
        have hsn : sizeF (z : Int) = (sizeN z : Int) := sizeF_nat (by omega)
        rw [hsn]
        by_cases hzi : sizeN z = i
        · have hneq : ((sizeN z : Int) != (i : Int)) = false := by rw [hzi]; simp
          have hroom := sizeN_room z
          rw [hzi] at hroom
          have hr3 : Hid (readF l num = if (sumF (A.extract 0 (4 + z)).data.toList).toNat ≠ numF 4 (A.extract (4 + z) A.size) ∨ restF A = false then none3 else (A.extract 4 (4 + z), i, true)) := Lib.hid (by
            rw [hr2.out]; unfold tailF; rw [← HZZ.out, if_neg]
            rw [hsn, hzi]; omega)
          obtain ⟨e, he⟩ : ∃ e, e = 4 + z := ⟨_, rfl⟩
          have me : IntKind.i64.wrap (4 + (z : Int)) = (e : Int) := by rw [IntKind.wrap_i64]; omega
          obtain ⟨e4, he4⟩ : ∃ e4, e4 = e + 4 := ⟨_, rfl⟩
          have me4 : IntKind.i64.wrap ((e : Int) + 4) = (e4 : Int) := by rw [IntKind.wrap_i64]; omega
          have p1 : (e : Int) ≤ (A.size : Int) := by rw [HWS.out]; omega
          have p2 : (e4 : Int) ≤ (A.size : Int) := by rw [HWS.out]; omega
          have p3 : (4 : Int) ≤ (e : Int) := by omega
          have p5 : (e : Int) ≤ (e4 : Int) := by omega
          have hAs : A.size ≤ 20000000 := by have := HWS.out; omega
          have hAe : e4 ≤ A.size := by have := HWS.out; omega
          obtain ⟨d1, hd1⟩ : ∃ d1, d1 = A.size - e := ⟨_, rfl⟩
          have ms1 : IntKind.i64.wrap ((A.size : Int) - (e : Int)) = (d1 : Int) := by rw [IntKind.wrap_i64]; omega
          obtain ⟨d2, hd2⟩ : ∃ d2, d2 = A.size - e4 := ⟨_, rfl⟩
          have ms2 : IntKind.i64.wrap ((d1 : Int) - 4) = (d2 : Int) := by rw [IntKind.wrap_i64]; omega
          have hd9 : d2 ≤ 100000000 := by have := HWS.out; omega
          have hrest : Hid (restF A = (A.extract e4 A.size).data.toList.all (· == 0)) := Lib.hid (by unfold restF; rw [← HZZ.out, ← he, ← he4])
          have HN4 : Hid (Lib.leNat (A.extract e e4).data.toList = numF 4 (A.extract e A.size)) := Lib.hid (by rw [he4]; exact num4_at A e (by rw [HWS.out]; omega))
          have HXS : Hid ((A.extract e e4).size ≤ 4) := Lib.hid (by rw [ByteArray.size_extract]; omega)
          have HD2 : Hid ((A.extract e4 A.size).size = d2) := Lib.hid (by rw [ByteArray.size_extract, hd2]; omega)
          have HE1 : Hid (e ≤ A.size) := Lib.hid (by rw [HWS.out]; omega)
          rw [← he] at hr3
          clear hzi hroom he hr2 hsn hz6 he4 hd1 hd2 hAs hAe
          go_wp2_with fail
          refine wp_region_held_drew (S := fun w' => Below w.heap.size w w') (by kernel_rfl) HB.out.drew (fun hHeld => ?_)
          refine take_op 0 (some 94) (v := ?_) rfl rfl (by kernel_rfl) (by kernel_rfl) (by kernel_rfl) (fun _ _ _ h => h) (Or.inl ⟨by rfl, ?_⟩) (by assumption) ?_
          rotate_left
          · intro w_ hSw_; (try dsimp only at hSw_); go_simp; (try with_reducible rfl)
          try simp only [Act.put, List.setIfInBounds_toArray, List.set_cons_zero, List.set_cons_succ]
          refine take_op 1 (some 95) (v := ?_) rfl rfl (by kernel_rfl) (by kernel_rfl) (by kernel_rfl) (fun _ _ _ h => h) (Or.inl ⟨by rfl, ?_⟩) (by assumption) ?_
          rotate_left
          · intro w_ hSw_; (try dsimp only at hSw_); go_simp; (try with_reducible rfl)
          try simp only [Act.put, List.setIfInBounds_toArray, List.set_cons_zero, List.set_cons_succ]
          refine take_op 2 (some 96) (v := ?_) rfl rfl (by kernel_rfl) (by kernel_rfl) (by kernel_rfl) (fun _ _ _ h => h) (Or.inl ⟨by rfl, ?_⟩) (by assumption) ?_
          rotate_left
          · intro w_ hSw_; (try dsimp only at hSw_); go_simp; (try with_reducible rfl)
          try simp only [Act.put, List.setIfInBounds_toArray, List.set_cons_zero, List.set_cons_succ]
          refine take_op 3 (some 97) (v := ?_) rfl rfl (by kernel_rfl) (by kernel_rfl) (by kernel_rfl) (fun _ _ _ h => h) (Or.inl ⟨by rfl, ?_⟩) (by assumption) ?_
          rotate_left
          · intro w_ hSw_; (try dsimp only at hSw_); go_simp; (try with_reducible rfl)
          try simp only [Act.put, List.setIfInBounds_toArray, List.set_cons_zero, List.set_cons_succ]
          refine take_op 4 (some 98) (v := ?_) rfl rfl (by kernel_rfl) (by kernel_rfl) (by kernel_rfl) (fun _ _ _ h => h) (Or.inl ⟨by rfl, ?_⟩) (by assumption) ?_
          rotate_left
          · intro w_ hSw_; (try dsimp only at hSw_); go_simp; (try with_reducible rfl)
          try simp only [Act.put, List.setIfInBounds_toArray, List.set_cons_zero, List.set_cons_succ]
          refine take_op 7 (some 101) (v := ?_) rfl rfl (by kernel_rfl) (by kernel_rfl) (by kernel_rfl) (fun _ _ _ h => h) (Or.inl ⟨by rfl, ?_⟩) (by assumption) ?_
          rotate_left
          · intro w_ hSw_; (try dsimp only at hSw_); go_simp; (try with_reducible rfl)
          try simp only [Act.put, List.setIfInBounds_toArray, List.set_cons_zero, List.set_cons_succ]
          refine take_op 8 (some 102) (v := ?_) rfl rfl (by kernel_rfl) (by kernel_rfl) (by kernel_rfl) (fun _ _ _ h => h) (Or.inl ⟨by rfl, ?_⟩) (by assumption) ?_
          rotate_left
          · intro w_ hSw_; (try dsimp only at hSw_); go_simp; (try with_reducible rfl)
          try simp only [Act.put, List.setIfInBounds_toArray, List.set_cons_zero, List.set_cons_succ]
          refine take_op 9 (some 103) (v := ?_) rfl rfl (by kernel_rfl) (by kernel_rfl) (by kernel_rfl) (fun _ _ _ h => h) (Or.inl ⟨by rfl, ?_⟩) (by assumption) ?_
          rotate_left
          · intro w_ hSw_; (try dsimp only at hSw_); go_simp; (try with_reducible rfl)
          try simp only [Act.put, List.setIfInBounds_toArray, List.set_cons_zero, List.set_cons_succ]
          refine go_op 5 rfl (by kernel_rfl) (fun K_ hK_ => ?_)
          go_simp
          refine (rfNumber_any (A.extract e e4) HXS.out _).mono ?_
          rintro e1 w5 ⟨rfl, hw5⟩
          have hw5 := hw5.symm
          subst hw5
          rw [HN4.out]
          have hnl : numF 4 (A.extract e A.size) < 4294967296 := numF_lt 4 _
          obtain ⟨m, hm⟩ : ∃ m, m = numF 4 (A.extract e A.size) := ⟨_, rfl⟩
          rw [← hm] at hnl hr3 ⊢
          clear hm HN4 HXS
          have mm : IntKind.u32.wrap (m : Int) = (m : Int) := by rw [IntKind.wrap_u32]; omega
          simp only [Act.put, List.setIfInBounds_toArray, List.set_cons_zero, List.set_cons_succ]
          refine hK_.out _ _ hHeld (fun hHeld_ => ?_)
          refine take_op 6 (some 100) (v := ?_) rfl rfl (by kernel_rfl) (by kernel_rfl) (by kernel_rfl) (fun _ _ _ h => h) (Or.inl ⟨by rfl, ?_⟩) (by assumption) ?_
          rotate_left
          · intro w_ hSw_; (try dsimp only at hSw_); go_simp; (try with_reducible rfl)
          try simp only [Act.put, List.setIfInBounds_toArray, List.set_cons_zero, List.set_cons_succ]
          refine go_op 10 rfl (by kernel_rfl) (fun K_ hK_ => ?_)
          go_simp
          refine (refSum_any (A.extract 0 e) _ (by rw [ByteArray.size_extract, HWS.out]; omega)).mono ?_
          rintro e1 w9 ⟨rfl, hw9⟩
          have hw9 := hw9.symm
          subst hw9
          have hcl := (sumF (A.extract 0 e).data.toList).isLt
          have ht : tn (sumF (A.extract 0 e).data.toList) = ((sumF (A.extract 0 e).data.toList).toNat : Int) := rfl
          rw [ht]
          obtain ⟨c, hcc⟩ : ∃ c, c = (sumF (A.extract 0 e).data.toList).toNat := ⟨_, rfl⟩
          rw [← hcc] at hcl hr3 ⊢
          clear ht hcc hHeld_
          simp only [Act.put, List.setIfInBounds_toArray, List.set_cons_zero, List.set_cons_succ]
          refine hK_.out _ _ hHeld (fun hHeld_ => ?_)
          by_cases hcm : c = m
          · have hne : ((m : Int) != (c : Int)) = false := by rw [hcm]; simp
            have hr4 : Hid (readF l num = if restF A = false then none3 else (A.extract 4 e, i, true)) := Lib.hid (by rw [hr3.out]; by_cases hf : restF A = false <;> simp [hf, hcm])
            clear hr3 hcm
            refine take_op 11 (some 105) (v := ?_) rfl rfl (by kernel_rfl) (by kernel_rfl) (by kernel_rfl) (fun _ _ _ h => h) (Or.inl ⟨by rfl, ?_⟩) (by assumption) ?_
            rotate_left
            · intro w_ hSw_; (try dsimp only at hSw_); go_simp; (try with_reducible rfl)
            try simp only [Act.put, List.setIfInBounds_toArray, List.set_cons_zero, List.set_cons_succ]
            refine take_op 12 (some 106) (v := ?_) rfl rfl (by kernel_rfl) (by kernel_rfl) (by kernel_rfl) (fun _ _ _ h => h) (Or.inl ⟨by rfl, ?_⟩) (by assumption) ?_
            rotate_left
            · intro w_ hSw_; (try dsimp only at hSw_); go_simp; (try with_reducible rfl)
            try simp only [Act.put, List.setIfInBounds_toArray, List.set_cons_zero, List.set_cons_succ]
            refine take_op 13 (some 107) (v := ?_) rfl rfl (by kernel_rfl) (by kernel_rfl) (by kernel_rfl) (fun _ _ _ h => h) (Or.inl ⟨by rfl, ?_⟩) (by assumption) ?_
            rotate_left
            · intro w_ hSw_; (try dsimp only at hSw_); go_simp; (try with_reducible rfl)
            try simp only [Act.put, List.setIfInBounds_toArray, List.set_cons_zero, List.set_cons_succ]
            refine take_op 14 (some 108) (v := ?_) rfl rfl (by kernel_rfl) (by kernel_rfl) (by kernel_rfl) (fun _ _ _ h => h) (Or.inl ⟨by rfl, ?_⟩) (by assumption) ?_
            rotate_left
            · intro w_ hSw_; (try dsimp only at hSw_); go_simp; (try with_reducible rfl)
            try simp only [Act.put, List.setIfInBounds_toArray, List.set_cons_zero, List.set_cons_succ]
            refine take_op 15 (some 109) (v := ?_) rfl rfl (by kernel_rfl) (by kernel_rfl) (by kernel_rfl) (fun _ _ _ h => h) (Or.inl ⟨by rfl, ?_⟩) (by assumption) ?_
            rotate_left
            · intro w_ hSw_; (try dsimp only at hSw_); go_simp; (try with_reducible rfl)
            try simp only [Act.put, List.setIfInBounds_toArray, List.set_cons_zero, List.set_cons_succ]
            refine take_op 16 (some 110) (v := ?_) rfl rfl (by kernel_rfl) (by kernel_rfl) (by kernel_rfl) (fun _ _ _ h => h) (Or.inl ⟨by rfl, ?_⟩) (by assumption) ?_
            rotate_left
            · intro w_ hSw_; (try dsimp only at hSw_); go_simp; (try with_reducible rfl)
            try simp only [Act.put, List.setIfInBounds_toArray, List.set_cons_zero, List.set_cons_succ]
            refine take_op 17 (some 111) (v := ?_) rfl rfl (by kernel_rfl) (by kernel_rfl) (by kernel_rfl) (fun _ _ _ h => h) (Or.inl ⟨by rfl, ?_⟩) (by assumption) ?_
            rotate_left
            · intro w_ hSw_; (try dsimp only at hSw_); go_simp; (try with_reducible rfl)
            try simp only [Act.put, List.setIfInBounds_toArray, List.set_cons_zero, List.set_cons_succ]
            refine take_op 18 (some 112) (v := ?_) rfl rfl (by kernel_rfl) (by kernel_rfl) (by kernel_rfl) (fun _ _ _ h => h) (Or.inl ⟨by rfl, ?_⟩) (by assumption) ?_
            rotate_left
            · intro w_ hSw_; (try dsimp only at hSw_); go_simp; (try with_reducible rfl)
            try simp only [Act.put, List.setIfInBounds_toArray, List.set_cons_zero, List.set_cons_succ]
            refine take_op 19 (some 113) (v := ?_) rfl rfl (by kernel_rfl) (by kernel_rfl) (by kernel_rfl) (fun _ _ _ h => h) (Or.inl ⟨by rfl, ?_⟩) (by assumption) ?_
            rotate_left
            · intro w_ hSw_; (try dsimp only at hSw_); go_simp; (try with_reducible rfl)
            try simp only [Act.put, List.setIfInBounds_toArray, List.set_cons_zero, List.set_cons_succ]
            refine take_op 20 (some 114) (v := ?_) rfl rfl (by kernel_rfl) (by kernel_rfl) (by kernel_rfl) (fun _ _ _ h => h) (Or.inl ⟨by rfl, ?_⟩) (by assumption) ?_
            rotate_left
            · intro w_ hSw_; (try dsimp only at hSw_); go_simp; (try with_reducible rfl)
            try simp only [Act.put, List.setIfInBounds_toArray, List.set_cons_zero, List.set_cons_succ]
            refine take_op 21 (some 115) (v := ?_) rfl rfl (by kernel_rfl) (by kernel_rfl) (by kernel_rfl) (fun _ _ _ h => h) (Or.inl ⟨by rfl, ?_⟩) (by assumption) ?_
            rotate_left
            · intro w_ hSw_; (try dsimp only at hSw_); go_simp; (try with_reducible rfl)
            try simp only [Act.put, List.setIfInBounds_toArray, List.set_cons_zero, List.set_cons_succ]
            refine go_op 22 rfl (by kernel_rfl) (fun K_ hK_ => ?_)
            refine step_makeB_w sl_u8p u8_infop .i64 .i64 d2 (some 116) rfl rfl rfl rfl rfl (by omega) (by omega) ?_
            intro w7 hb7 hz7 hr7
            have HB7 := Lib.hid (hHeld.trans (hb7.mono hHeld.size))
            have HZ7 := Lib.hid (Blk.below (Blk.drew HZ.out) hb7 HZ.out.lt)
            have hr7 := Lib.hid hr7
            clear hb7
            simp only [Act.put, List.setIfInBounds_toArray, List.set_cons_zero, List.set_cons_succ]
            refine hK_.out _ _ HB7.out (fun hHeld_ => ?_)
            refine go_op 23 rfl (by kernel_rfl) (fun K_ hK_ => ?_)
            refine step_toStr_w sl_u8p u8_up str_up wr.heap.size 0 d2 (List.replicate d2 0) d2 List.length_replicate.symm (some 117) rfl rfl rfl rfl (by intro j hj; rw [Nat.zero_add]; exact (hr7.out j hj).1) ?_
            have hrep : (⟨(List.replicate d2 (0 : UInt8)).toArray⟩ : ByteArray) = ⟨Array.replicate (A.extract e4 A.size).size 0⟩ := by rw [HD2.out]; simp
            have hre := rest_eq (A.extract e4 A.size)
            rw [hrep]
            rw [← hrest.out] at hre
            obtain ⟨R, hR⟩ : ∃ R : ByteArray, R = ⟨Array.replicate (A.extract e4 A.size).size 0⟩ := ⟨_, rfl⟩
            obtain ⟨Y, hY⟩ : ∃ Y, Y = A.extract e4 A.size := ⟨_, rfl⟩
            rw [← hR] at hre ⊢
            rw [← hY] at hre ⊢
            clear hrep hR hY
            simp only [Act.put, List.setIfInBounds_toArray, List.set_cons_zero, List.set_cons_succ]
            refine hK_.out _ _ HB7.out (fun hHeld_ => ?_)
            cases hf : restF A
            · have hbad : Hid (readF l num = none3) := Lib.hid (by rw [hr4.out, hf]; rfl)
              rw [hf] at hre
              clear hf hrest hr4
              refine take_op 24 (some 118) (v := ?_) rfl rfl (by kernel_rfl) (by kernel_rfl) (by kernel_rfl) (fun _ _ _ h => h) (Or.inl ⟨by rfl, ?_⟩) (by assumption) ?_
              rotate_left
              · intro w_ hSw_; (try dsimp only at hSw_); go_simp; (try with_reducible rfl)
              try simp only [Act.put, List.setIfInBounds_toArray, List.set_cons_zero, List.set_cons_succ]
              refine take_op 25 (some 119) (v := ?_) rfl rfl (by kernel_rfl) (by kernel_rfl) (by kernel_rfl) (fun _ _ _ h => h) (Or.inl ⟨by rfl, ?_⟩) (by assumption) ?_
              rotate_left
              · intro w_ hSw_; (try dsimp only at hSw_); go_simp; (try with_reducible rfl)
              try simp only [Act.put, List.setIfInBounds_toArray, List.set_cons_zero, List.set_cons_succ]
              refine wpAnyH_done (by kernel_rfl) ?_ _
              obtain ⟨z0, z1, z2, y0, y1, y2⟩ := zrow_facts HZ7.out
              go_wp2_with fail
              exact gotS_ret rfl rfl (put3 HZ7.out _ _ _) ⟨by rw [hbad.out]; rfl, below3 HB7.out _ _ _⟩
            · have hgood : Hid (readF l num = (A.extract 4 e, i, true)) := Lib.hid (by rw [hr4.out, hf]; rfl)
              rw [hf] at hre
              clear hf hrest hr4
              refine take_op 24 (some 118) (v := ?_) rfl rfl (by kernel_rfl) (by kernel_rfl) (by kernel_rfl) (fun _ _ _ h => h) (Or.inl ⟨by rfl, ?_⟩) (by assumption) ?_
              rotate_left
              · intro w_ hSw_; (try dsimp only at hSw_); go_simp; (try with_reducible rfl)
              try simp only [Act.put, List.setIfInBounds_toArray, List.set_cons_zero, List.set_cons_succ]
              refine take_op 25 (some 119) (v := ?_) rfl rfl (by kernel_rfl) (by kernel_rfl) (by kernel_rfl) (fun _ _ _ h => h) (Or.inl ⟨by rfl, ?_⟩) (by assumption) ?_
              rotate_left
              · intro w_ hSw_; (try dsimp only at hSw_); go_simp; (try with_reducible rfl)
              try simp only [Act.put, List.setIfInBounds_toArray, List.set_cons_zero, List.set_cons_succ]
              refine wpAnyH_done (by kernel_rfl) ?_ _
              obtain ⟨z0, z1, z2, y0, y1, y2⟩ := zrow_facts HZ7.out
              go_wp2_with fail
              exact gotS_ret rfl rfl (put3 HZ7.out _ _ _) ⟨by rw [hgood.out]; rfl, below3 HB7.out _ _ _⟩
          · have hne : ((m : Int) != (c : Int)) = true := by simpa using (by omega : ¬ ((m : Int) = (c : Int)))
            have hbad : Hid (readF l num = none3) := Lib.hid (by rw [hr3.out, if_pos (.inl hcm)])
            clear hcm hr3
            refine take_op 11 (some 105) (v := ?_) rfl rfl (by kernel_rfl) (by kernel_rfl) (by kernel_rfl) (fun _ _ _ h => h) (Or.inl ⟨by rfl, ?_⟩) (by assumption) ?_
            rotate_left
            · intro w_ hSw_; (try dsimp only at hSw_); go_simp; (try with_reducible rfl)
            try simp only [Act.put, List.setIfInBounds_toArray, List.set_cons_zero, List.set_cons_succ]
            refine take_op 12 (some 106) (v := ?_) rfl rfl (by kernel_rfl) (by kernel_rfl) (by kernel_rfl) (fun _ _ _ h => h) (Or.inl ⟨by rfl, ?_⟩) (by assumption) ?_
            rotate_left
            · intro w_ hSw_; (try dsimp only at hSw_); go_simp; (try with_reducible rfl)
            try simp only [Act.put, List.setIfInBounds_toArray, List.set_cons_zero, List.set_cons_succ]
            refine take_op 13 (some 107) rfl rfl (by kernel_rfl) (by kernel_rfl) (by kernel_rfl) (fun _ _ _ h => h) (Or.inr ⟨by rfl, rfl⟩) (by assumption) ?_
            try simp only [Act.put, List.setIfInBounds_toArray, List.set_cons_zero, List.set_cons_succ]
            refine take_op 14 (some 108) rfl rfl (by kernel_rfl) (by kernel_rfl) (by kernel_rfl) (fun _ _ _ h => h) (Or.inr ⟨by rfl, rfl⟩) (by assumption) ?_
            try simp only [Act.put, List.setIfInBounds_toArray, List.set_cons_zero, List.set_cons_succ]
            refine take_op 15 (some 109) rfl rfl (by kernel_rfl) (by kernel_rfl) (by kernel_rfl) (fun _ _ _ h => h) (Or.inr ⟨by rfl, rfl⟩) (by assumption) ?_
            try simp only [Act.put, List.setIfInBounds_toArray, List.set_cons_zero, List.set_cons_succ]
            refine take_op 16 (some 110) rfl rfl (by kernel_rfl) (by kernel_rfl) (by kernel_rfl) (fun _ _ _ h => h) (Or.inr ⟨by rfl, rfl⟩) (by assumption) ?_
            try simp only [Act.put, List.setIfInBounds_toArray, List.set_cons_zero, List.set_cons_succ]
            refine take_op 17 (some 111) rfl rfl (by kernel_rfl) (by kernel_rfl) (by kernel_rfl) (fun _ _ _ h => h) (Or.inr ⟨by rfl, rfl⟩) (by assumption) ?_
            try simp only [Act.put, List.setIfInBounds_toArray, List.set_cons_zero, List.set_cons_succ]
            refine take_op 18 (some 112) rfl rfl (by kernel_rfl) (by kernel_rfl) (by kernel_rfl) (fun _ _ _ h => h) (Or.inr ⟨by rfl, rfl⟩) (by assumption) ?_
            try simp only [Act.put, List.setIfInBounds_toArray, List.set_cons_zero, List.set_cons_succ]
            refine take_op 19 (some 113) rfl rfl (by kernel_rfl) (by kernel_rfl) (by kernel_rfl) (fun _ _ _ h => h) (Or.inr ⟨by rfl, rfl⟩) (by assumption) ?_
            try simp only [Act.put, List.setIfInBounds_toArray, List.set_cons_zero, List.set_cons_succ]
            refine take_op 20 (some 114) rfl rfl (by kernel_rfl) (by kernel_rfl) (by kernel_rfl) (fun _ _ _ h => h) (Or.inr ⟨by rfl, rfl⟩) (by assumption) ?_
            try simp only [Act.put, List.setIfInBounds_toArray, List.set_cons_zero, List.set_cons_succ]
            refine take_op 21 (some 115) rfl rfl (by kernel_rfl) (by kernel_rfl) (by kernel_rfl) (fun _ _ _ h => h) (Or.inr ⟨by rfl, rfl⟩) (by assumption) ?_
            try simp only [Act.put, List.setIfInBounds_toArray, List.set_cons_zero, List.set_cons_succ]
            refine take_op 22 (some 116) rfl rfl (by kernel_rfl) (by kernel_rfl) (by kernel_rfl) (fun _ _ _ h => h) (Or.inr ⟨by rfl, rfl⟩) (by assumption) ?_
            try simp only [Act.put, List.setIfInBounds_toArray, List.set_cons_zero, List.set_cons_succ]
            refine take_op 23 (some 117) rfl rfl (by kernel_rfl) (by kernel_rfl) (by kernel_rfl) (fun _ _ _ h => h) (Or.inr ⟨by rfl, rfl⟩) (by assumption) ?_
            try simp only [Act.put, List.setIfInBounds_toArray, List.set_cons_zero, List.set_cons_succ]
            refine take_op 24 (some 118) rfl rfl (by kernel_rfl) (by kernel_rfl) (by kernel_rfl) (fun _ _ _ h => h) (Or.inr ⟨by rfl, rfl⟩) (by assumption) ?_
            try simp only [Act.put, List.setIfInBounds_toArray, List.set_cons_zero, List.set_cons_succ]
            refine take_op 25 (some 119) (v := ?_) rfl rfl (by kernel_rfl) (by kernel_rfl) (by kernel_rfl) (fun _ _ _ h => h) (Or.inl ⟨by rfl, ?_⟩) (by assumption) ?_
            rotate_left
            · intro w_ hSw_; (try dsimp only at hSw_); go_simp; (try with_reducible rfl)
            try simp only [Act.put, List.setIfInBounds_toArray, List.set_cons_zero, List.set_cons_succ]
            refine wpAnyH_done (by kernel_rfl) ?_ _
            have HZ8 := Lib.hid (Blk.drew HZ.out)
            have HB8 := Lib.hid hHeld
            clear hHeld_ hHeld
            generalize wr.drew = w10 at HZ8 HB8
            obtain ⟨z0, z1, z2, y0, y1, y2⟩ := zrow_facts HZ8.out
            go_wp2_with fail
            exact gotS_ret rfl rfl (put3 HZ8.out _ _ _) ⟨by rw [hbad.out]; rfl, below3 HB8.out _ _ _⟩
        · have hneq : ((sizeN z : Int) != (i : Int)) = true := by simpa using (by omega : ¬ ((sizeN z : Int) = (i : Int)))
          have hbad : Hid (readF l num = none3) := Lib.hid (by rw [hr2.out]; unfold tailF; rw [← HZZ.out, if_pos (.inr (by rw [hsn]; omega))])
          clear hzi
          obtain ⟨z0, z1, z2, y0, y1, y2⟩ := zrow_facts HZ.out
          go_wp2_with fail
          exact gotS_ret rfl rfl (put3 HZ.out _ _ _) ⟨by rw [hbad.out]; rfl, below3 HB.out _ _ _⟩
  · have hne : ((secNum x0 : Int) != (num : Int)) = true := by simpa using (by omega : ¬ ((secNum x0 : Int) = (num : Int)))
    have hbad : Hid (readF l num = none3) := Lib.hid (by unfold readF; rw [HHD.out, if_pos (.inr (.inr hn0))])
    clear hn0
    obtain ⟨z0, z1, z2, y0, y1, y2⟩ := zrow_facts HZ1.out
    go_wp2_with fail
    exact gotS_ret rfl rfl (put3 HZ1.out _ _ _) ⟨by rw [hbad.out]; rfl, below3 HB1.out _ _ _⟩
end Go.Proofs.YtcakellhellddaaGreatDoor
