/- Texts of this proof, one behind the other: PInt. -/
import Derived.Test.YtebcdjpddoaajaaGreatDoorGs9
import Derived.Test.YtebcdjpddoaajaaGreatDoorGs10
/- ParseInt of the spec. -/
namespace Go.Proofs.YtebcdjpddoaajaaGreatDoor
open Go.RowKit
set_option linter.unusedVariables false
set_option linter.unusedSimpArgs false
set_option maxHeartbeats 1000000
set_option maxRecDepth 100000
def vPair (o : Option Int) : Value := match o with | some n => .tuple #[.int .i64 n, .bool true] | none => .tuple #[.int .i64 0, .bool false]
theorem dec_len : ∀ (m u : Nat), u < 10 ^ (m + 1) → (Lib.decDigits u).length ≤ m + 1
  | 0, u, h => by rw [Lib.decDigits_one (by simpa using h)]; exact Nat.le_refl _
  | m + 1, u, h => by
    by_cases h1 : u < 10
    · rw [Lib.decDigits_one h1]; simp
    · have e : Lib.decDigits u = Lib.decDigits (u / 10) ++ [UInt8.ofNat (48 + u % 10)] := by rw [Lib.decDigits, dif_neg h1]
      have h2 : u / 10 < 10 ^ (m + 1) := by
        rw [Nat.pow_succ] at h
        omega
      have := dec_len m (u / 10) h2
      rw [e, List.length_append]
      simp only [List.length_cons, List.length_nil]
      omega
theorem tq {d : Int} (h : 0 ≤ d) (h9 : d ≤ 9) : (-9223372036854775808 + d).tdiv 10 = -((9223372036854775808 - d) / 10) := by
  rw [show -9223372036854775808 + d = -(9223372036854775808 - d) by omega, Int.neg_tdiv, Int.tdiv_eq_ediv_of_nonneg (by omega)]
theorem toL_inj {a b : ByteArray} (h : a.toList = b.toList) : a = b := by
  rw [ByteArray.toList_eq, ByteArray.toList_eq] at h
  exact ByteArray.ext (Array.toList_inj.1 h)
theorem isDg_at {s : ByteArray} (h : isDg s = true) {k : Nat} (hk : k < s.size) : 48 ≤ s[k].toNat ∧ s[k].toNat ≤ 57 := by
  unfold isDg at h
  rw [Bool.and_eq_true, List.all_eq_true] at h
  have hk' : k < s.data.toList.length := by simpa using hk
  have := h.1 (s.data.toList[k]) (List.getElem_mem hk')
  unfold dgB at this
  have e : s.data.toList[k] = s[k] := rfl
  rw [e] at this
  have := of_decide_eq_true this
  omega
theorem psI_pos {s : ByteArray} (h0 : 0 < s.size) (hn : ¬ (s[0].toNat : Int) = 45) {n : Int} (h1 : -9223372036854775808 ≤ n) (h2 : n ≤ 9223372036854775807) (h : itoaB n = s) :
    0 ≤ n ∧ (dval 0 s.data.toList : Int) = n ∧ isDg s = true ∧ s.size ≤ 19 := by
  have hl : s.data.toList = Lib.itoa n := by rw [← h]; simp [itoaB]
  have hs : s.data.toList.length = s.size := by simp
  by_cases g : 0 ≤ n
  · obtain ⟨u, rfl⟩ := Int.eq_ofNat_of_zero_le g
    rw [show ((u : Nat) : Int) = (u : Int) from rfl, Lib.itoa_nonneg] at hl
    refine ⟨g, by rw [hl, dval_dec], dec_isDg s u hl, ?_⟩
    have := dec_len 18 u (by omega)
    rw [← hl] at this
    omega
  · exfalso
    obtain ⟨u, rfl⟩ : ∃ u : Nat, n = -(u : Int) := ⟨n.natAbs, by omega⟩
    rw [Lib.itoa_neg u (by omega)] at hl
    have hd := sdrop s h0
    rw [List.drop_zero, hl] at hd
    injection hd with hd _
    rw [← hd] at hn
    exact hn rfl
theorem psI_neg {s T : ByteArray} (h0 : 0 < s.size) (hn : (s[0].toNat : Int) = 45) (hT : T.data.toList = s.data.toList.drop 1) {n : Int} (h1 : -9223372036854775808 ≤ n) (h2 : n ≤ 9223372036854775807) (h : itoaB n = s) :
    n ≤ 0 ∧ -(dval 0 T.data.toList : Int) = n ∧ isDg T = true ∧ T.size ≤ 19 := by
  have hl : s.data.toList = Lib.itoa n := by rw [← h]; simp [itoaB]
  have hs : T.data.toList.length = T.size := by simp
  by_cases g : 0 ≤ n
  · exfalso
    obtain ⟨u, rfl⟩ := Int.eq_ofNat_of_zero_le g
    rw [show ((u : Nat) : Int) = (u : Int) from rfl, Lib.itoa_nonneg] at hl
    have hd := sdrop s h0
    rw [List.drop_zero, hl] at hd
    have := dec_digits u s[0] (by rw [hd]; exact List.mem_cons_self)
    omega
  · obtain ⟨u, rfl⟩ : ∃ u : Nat, n = -(u : Int) := ⟨n.natAbs, by omega⟩
    rw [Lib.itoa_neg u (by omega)] at hl
    rw [hl] at hT
    have hT : T.data.toList = Lib.decDigits u := hT
    refine ⟨by omega, by rw [hT, dval_dec], dec_isDg T u hT, ?_⟩
    have := dec_len 18 u (by omega)
    rw [← hT] at this
    omega
theorem spec_ParseInt_c (s : ByteArray) (w : World) (hs : s.size ≤ 4194304) : Calls Tryz.prog 100 #[.string s] w fun e w' => e = .returned (vPair (psI s)) ∧ Below w.heap.size w w' := by
  by_cases h0 : 0 < s.size
  · by_cases hneg : (s[0].toNat : Int) = 45
    · have hT1 : (s.extract 1 s.size).data.toList = s.data.toList.drop 1 := by
        rw [ext_list]; exact List.take_of_length_le (by simp)
      have hT2 : (s.extract 1 s.size).size = s.size - 1 := by
        have h : (s.extract 1 s.size).data.toList.length = (s.extract 1 s.size).size := by simp
        have h2 : s.data.toList.length = s.size := by simp
        rw [hT1, List.length_drop] at h
        omega
      have h1s : (1 : Int) ≤ (s.size : Int) := by omega
      go_enter Tryz.func100, Tryz.ntmps100
      go_wp2_with fail
      generalize s.extract 1 s.size = T at hT1 hT2 ⊢
      have HL := Lib.hid (fun n h1 h2 h3 => psI_neg h0 hneg hT1 (n := n) h1 h2 h3)
      have HT1 := Lib.hid hT1
      clear hT1
      by_cases hd : isDg T = true
      · by_cases hl : T.size ≤ 19
        · go_wp2_with (go_at_call 123; refine (spec_IsDigits_c _ _ (by omega)).mono ?_; rintro e wf ⟨rfl, rfl⟩; rw [hd])
          go_loopw [6, 7, 8] (fun n i d wr => ∃ (k : Nat), k ≤ T.size ∧ n = .int .i64 (-(dval 0 (T.data.toList.take k) : Int)) ∧ i = .int .i64 (k : Int) ∧ dval 0 (T.data.toList.take k) ≤ 9223372036854775808 ∧ wr = w) (fun n i d wr => T.size - (intOf i).toNat)
          case atStart => exact ⟨0, Nat.zero_le _, rfl, rfl, Nat.zero_le _, rfl⟩
          case round =>
            obtain ⟨k, hk, rfl, rfl, hv, rfl⟩ := hrel
            by_cases hlt : k < T.size
            · have hdg := isDg_at hd hlt
              have hn := dval_next hlt
              have ht := dval_take T.data.toList (k + 1)
              obtain ⟨v, hve⟩ : ∃ v, v = dval 0 (T.data.toList.take k) := ⟨_, rfl⟩
              rw [← hve] at hv hn ⊢
              have HT := Lib.hid ht
              have HN := Lib.hid hn
              clear ht hn
              by_cases ov : v * 10 + (T[k].toNat - 48) ≤ 9223372036854775808
              · have hq : ¬ (-(v : Int)) < (-9223372036854775808 + ((T[k].toNat : Int) - 48)).tdiv 10 := by rw [tq (by omega) (by omega)]; omega
                go_wp2_with fail
                exact ⟨⟨k + 1, by omega, by rw [HN.out]; congr 1; omega, by simp, by rw [HN.out]; exact ov, by simp⟩, by simp only [intOf]; omega⟩
              · have hq : (-(v : Int)) < (-9223372036854775808 + ((T[k].toNat : Int) - 48)).tdiv 10 := by rw [tq (by omega) (by omega)]; omega
                go_wp2_with fail
                refine bodyPost_ret (v := .tuple #[.int .i64 0, .bool false]) (by simp [*, results, Tryz.results100, go_sem]) rfl ⟨?_, Below.refl _ _⟩
                rw [psI_none]; rfl
                intro n h1 h2 h3
                have := HL.out n h1 h2 h3
                have := HT.out
                have := HN.out
                omega
            · obtain rfl : k = T.size := by omega
              have hT : T.data.toList.take T.size = T.data.toList := List.take_of_length_le (by simp)
              rw [hT] at hv ⊢
              obtain ⟨v, hve⟩ : ∃ v, v = dval 0 T.data.toList := ⟨_, rfl⟩
              rw [← hve] at hv ⊢
              have HE := Lib.hid hve
              clear hve hT
              cases he : ((itoaB (-(v : Int))).toList == s.toList) with
              | true =>
                have HS := Lib.hid (toL_inj (eq_of_beq he))
                go_wp2_with (go_at_call 57; refine (spec_FormatInt_c (-(v : Int)) _ (by omega) (by omega)).mono ?_; rintro e wf ⟨rfl, hbf⟩)
                refine bodyPost_ret (v := .tuple #[.int .i64 (-(v : Int)), .bool true]) (by simp [*, results, Tryz.results100, go_sem]) rfl ⟨?_, hbf⟩
                rw [psI_some (by omega) (by omega) HS.out]; rfl
              | false =>
                have HS := Lib.hid (show ¬ itoaB (-(v : Int)) = s from fun e => by rw [e] at he; simp at he)
                go_wp2_with (go_at_call 57; refine (spec_FormatInt_c (-(v : Int)) _ (by omega) (by omega)).mono ?_; rintro e wf ⟨rfl, hbf⟩)
                refine bodyPost_ret (v := .tuple #[.int .i64 0, .bool false]) (by simp [*, results, Tryz.results100, go_sem]) rfl ⟨?_, hbf⟩
                rw [psI_none]; rfl
                intro n h1 h2 h3
                have h4 := HL.out n h1 h2 h3
                have h5 := HE.out
                have h6 : n = -(v : Int) := by omega
                rw [h6] at h3
                exact HS.out h3
        · go_wp2_with (go_at_call 123; refine (spec_IsDigits_c _ _ (by omega)).mono ?_; rintro e wf ⟨rfl, rfl⟩; rw [hd])
          refine bodyPost_ret (v := .tuple #[.int .i64 0, .bool false]) (by simp [*, results, Tryz.results100, go_sem]) rfl ⟨?_, Below.refl _ _⟩
          rw [psI_none]; rfl
          intro n h1 h2 h3
          have := HL.out n h1 h2 h3
          omega
      · have hd : isDg T = false := by simpa using hd
        go_wp2_with (go_at_call 123; refine (spec_IsDigits_c _ _ (by omega)).mono ?_; rintro e wf ⟨rfl, rfl⟩; rw [hd])
        refine bodyPost_ret (v := .tuple #[.int .i64 0, .bool false]) (by simp [*, results, Tryz.results100, go_sem]) rfl ⟨?_, Below.refl _ _⟩
        rw [psI_none]; rfl
        intro n h1 h2 h3
        have := (HL.out n h1 h2 h3).2.2.1
        rw [hd] at this; cases this
    · go_enter Tryz.func100, Tryz.ntmps100
      by_cases hd : isDg s = true
      · by_cases hl : s.size ≤ 19
        · go_wp2_with (go_at_call 123; refine (spec_IsDigits_c _ _ (by omega)).mono ?_; rintro e wf ⟨rfl, rfl⟩; rw [hd])
          go_loopw [6, 7, 8] (fun n i d wr => ∃ (k : Nat), k ≤ s.size ∧ n = .int .i64 (-(dval 0 (s.data.toList.take k) : Int)) ∧ i = .int .i64 (k : Int) ∧ dval 0 (s.data.toList.take k) ≤ 9223372036854775808 ∧ wr = w) (fun n i d wr => s.size - (intOf i).toNat)
          case atStart => exact ⟨0, Nat.zero_le _, rfl, rfl, Nat.zero_le _, rfl⟩
          case round =>
            obtain ⟨k, hk, rfl, rfl, hv, rfl⟩ := hrel
            by_cases hlt : k < s.size
            · have hdg := isDg_at hd hlt
              have hn := dval_next hlt
              have ht := dval_take s.data.toList (k + 1)
              obtain ⟨v, hve⟩ : ∃ v, v = dval 0 (s.data.toList.take k) := ⟨_, rfl⟩
              rw [← hve] at hv hn ⊢
              have HT := Lib.hid ht
              have HN := Lib.hid hn
              clear ht hn
              by_cases ov : v * 10 + (s[k].toNat - 48) ≤ 9223372036854775808
              · have hq : ¬ (-(v : Int)) < (-9223372036854775808 + ((s[k].toNat : Int) - 48)).tdiv 10 := by rw [tq (by omega) (by omega)]; omega
                go_wp2_with fail
                exact ⟨⟨k + 1, by omega, by rw [HN.out]; congr 1; omega, by simp, by rw [HN.out]; exact ov, by simp⟩, by simp only [intOf]; omega⟩
              · have hq : (-(v : Int)) < (-9223372036854775808 + ((s[k].toNat : Int) - 48)).tdiv 10 := by rw [tq (by omega) (by omega)]; omega
                go_wp2_with fail
                refine bodyPost_ret (v := .tuple #[.int .i64 0, .bool false]) (by simp [*, results, Tryz.results100, go_sem]) rfl ⟨?_, Below.refl _ _⟩
                rw [psI_none]; rfl
                intro n h1 h2 h3
                have := psI_pos h0 hneg h1 h2 h3
                have := HT.out
                have := HN.out
                omega
            · obtain rfl : k = s.size := by omega
              have hT : s.data.toList.take s.size = s.data.toList := List.take_of_length_le (by simp)
              rw [hT] at hv ⊢
              have HP := Lib.hid (fun n h1 h2 h3 => psI_pos h0 hneg (n := n) h1 h2 h3)
              obtain ⟨v, hve⟩ : ∃ v, v = dval 0 s.data.toList := ⟨_, rfl⟩
              rw [← hve] at hv ⊢
              have HE := Lib.hid hve
              clear hve hT
              by_cases hm : v = 9223372036854775808
              · subst hm
                go_wp2_with fail
                refine bodyPost_ret (v := .tuple #[.int .i64 0, .bool false]) (by simp [*, results, Tryz.results100, go_sem]) rfl ⟨?_, Below.refl _ _⟩
                rw [psI_none]; rfl
                intro n h1 h2 h3
                have := HP.out n h1 h2 h3
                have := HE.out
                omega
              · have hm2 : ((-(v : Int)) == -9223372036854775808) = false := by simp; omega
                have hm3 : (v : Int) ≤ 9223372036854775807 := by omega
                cases he : ((itoaB (v : Int)).toList == s.toList) with
                | true =>
                  have HS := Lib.hid (toL_inj (eq_of_beq he))
                  go_wp2_with (go_at_call 57; refine (spec_FormatInt_c (v : Int) _ (by omega) (by omega)).mono ?_; rintro e wf ⟨rfl, hbf⟩)
                  refine bodyPost_ret (v := .tuple #[.int .i64 (v : Int), .bool true]) (by simp [*, results, Tryz.results100, go_sem]) rfl ⟨?_, hbf⟩
                  rw [psI_some (by omega) (by omega) HS.out]; rfl
                | false =>
                  have HS := Lib.hid (show ¬ itoaB (v : Int) = s from fun e => by rw [e] at he; simp at he)
                  go_wp2_with (go_at_call 57; refine (spec_FormatInt_c (v : Int) _ (by omega) (by omega)).mono ?_; rintro e wf ⟨rfl, hbf⟩)
                  refine bodyPost_ret (v := .tuple #[.int .i64 0, .bool false]) (by simp [*, results, Tryz.results100, go_sem]) rfl ⟨?_, hbf⟩
                  rw [psI_none]; rfl
                  intro n h1 h2 h3
                  have h4 := HP.out n h1 h2 h3
                  have h5 := HE.out
                  have h6 : n = (v : Int) := by omega
                  rw [h6] at h3
                  exact HS.out h3
        · go_wp2_with (go_at_call 123; refine (spec_IsDigits_c _ _ (by omega)).mono ?_; rintro e wf ⟨rfl, rfl⟩; rw [hd])
          refine bodyPost_ret (v := .tuple #[.int .i64 0, .bool false]) (by simp [*, results, Tryz.results100, go_sem]) rfl ⟨?_, Below.refl _ _⟩
          rw [psI_none]; rfl
          intro n h1 h2 h3
          have := psI_pos h0 hneg h1 h2 h3
          omega
      · have hd : isDg s = false := by simpa using hd
        go_wp2_with (go_at_call 123; refine (spec_IsDigits_c _ _ (by omega)).mono ?_; rintro e wf ⟨rfl, rfl⟩; rw [hd])
        refine bodyPost_ret (v := .tuple #[.int .i64 0, .bool false]) (by simp [*, results, Tryz.results100, go_sem]) rfl ⟨?_, Below.refl _ _⟩
        rw [psI_none]; rfl
        intro n h1 h2 h3
        have := (psI_pos h0 hneg h1 h2 h3).2.2.1
        rw [hd] at this; cases this
  · have hd : isDg s = false := by unfold isDg; rw [show decide (0 < s.size) = false from decide_eq_false h0, Bool.and_false]
    have hz : s.size = 0 := by omega
    go_enter Tryz.func100, Tryz.ntmps100
    go_wp2_with (go_at_call 123; refine (spec_IsDigits_c _ _ (by omega)).mono ?_; rintro e wf ⟨rfl, rfl⟩; rw [hd])
    refine bodyPost_ret (v := .tuple #[.int .i64 0, .bool false]) (by simp [*, results, Tryz.results100, go_sem]) rfl ⟨?_, Below.refl _ _⟩
    rw [psI_none]; rfl
    intro n h1 h2 h3
    have hl : s.data.toList = Lib.itoa n := by rw [← h3]; simp [itoaB]
    have hs : s.data.toList.length = s.size := by simp
    have := List.length_pos_iff.2 (itoa_ne n)
    rw [← hl] at this
    omega
end Go.Proofs.YtebcdjpddoaajaaGreatDoor
