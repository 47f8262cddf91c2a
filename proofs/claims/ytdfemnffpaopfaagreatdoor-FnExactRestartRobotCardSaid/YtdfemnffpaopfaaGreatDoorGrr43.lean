/- Texts of this proof, one behind the other: RemS. -/
import Derived.Test.YtdfemnffpaopfaaGreatDoorGrr17
/- RemoveFactor of the reference. -/
namespace Go.Proofs.YtdfemnffpaopfaaGreatDoor
open Go.RowKit
set_option linter.unusedVariables false
set_option linter.unusedSimpArgs false
set_option maxHeartbeats 4000000
set_option maxRecDepth 100000
theorem fil_len : ∀ (l : List Factor) (id : Int), ((l.filter fun g => g.id != id).length = l.length ↔ hasId l id = false)
  | [], id => by simp [hasId]
  | a :: l, id => by
    have ih := fil_len l id
    have hle := List.length_filter_le (fun g : Factor => g.id != id) l
    by_cases h : a.id = id
    · have h1 : hasId (a :: l) id = true := by simp [hasId, h]
      rw [List.filter_cons_of_neg (by simp [h]), h1]
      constructor
      · intro he; simp only [List.length_cons] at he; omega
      · intro he; cases he
    · have h1 : hasId (a :: l) id = hasId l id := by simp [hasId, h]
      rw [List.filter_cons_of_pos (by simpa using h), h1, ← ih]
      simp
theorem fil_snoc {l : List Factor} {k : Nat} {f : Factor} {id : Int} (h : l[k]? = some f) : (l.take (k + 1)).filter (fun g => g.id != id) = (l.take k).filter (fun g => g.id != id) ++ if f.id != id then [f] else [] := by
  obtain ⟨hi, he⟩ := List.getElem?_eq_some_iff.1 h
  rw [List.take_succ_eq_append_getElem hi, List.filter_append, he]
  cases hk : f.id != id <;> simp [List.filter_cons, hk]
theorem spec_RemoveFactor_k (v : Sv) (l : List Factor) (id : Int) (w : World) (hm : fewF l) (hs : smallFs l) (hr : RdF w v l) :
    Calls Tryz.prog 109 #[.slice v.A v.n v.c, .int .i64 id] w fun e w' => ∃ v' : Sv, e = .returned (.tuple #[.slice v'.A v'.n v'.c, .bool (removeF l id).2]) ∧ FPost w v' (removeF l id).1 w' := by
  obtain ⟨i0, hii, hq0, hq1, hq2⟩ := info_parts info_Factor
  have HL := Lib.hid hr.len
  have HR := Lib.hid hr
  have hm1 : v.n ≤ 4194304 := by have h : l.length = v.n := HL.out; unfold fewF at hm; omega
  obtain ⟨A, n, c⟩ := v
  dsimp only at hm1 HL ⊢
  clear hr
  go_enter Tryz.func109, Tryz.ntmps109
  go_wp2_with fail
  go_loopw [6, 12] (fun sv iv wr => ∃ (k m : Nat) (A' : Option Addr) (c' : Nat), k ≤ n ∧ iv = .int .i64 (k : Int) ∧ sv = .slice A' m c' ∧ m ≤ k ∧ ((l.take k).filter fun g => g.id != id).length = m ∧ Own wr w.heap.size 34 8 A' m c' (((l.take k).filter fun g => g.id != id).map Factor.cells) ∧ Below w.heap.size w wr) (fun _ iv _ => n - (intOf iv).toNat)
  case atStart => exact ⟨0, 0, _, 0, Nat.zero_le _, rfl, rfl, Nat.le_refl _, rfl, Own.made0 w _ 8 (Nat.le_refl _), bAlloc (Below.refl _ _) _⟩
  case round =>
    obtain ⟨k, m, A', c', hk, rfl, rfl, hmk, hml, ho, hb⟩ := hrel
    have HO := Lib.hid ho
    have HB := Lib.hid hb
    have hszb := hb.size
    clear ho hb
    by_cases hlt : k < n
    · obtain ⟨f, g, off, hf, rfl, g0, g1, g2, g3, g4, g5, g6, g7⟩ := RowF.at_ (Row.below HR.out HB.out) hlt
      have hsn := fil_snoc (id := id) hf.out
      by_cases hkd : f.id = id
      · have hkb : (f.id != id) = false := by simp [hkd]
        rw [hkb, if_neg (by simp), List.append_nil] at hsn
        have HS := Lib.hid hsn
        clear hsn hf
        go_wp2_with fail
        exact ⟨⟨k + 1, m, A', c', by omega, by simp, rfl, by omega, by rw [HS.out]; exact hml, by rw [HS.out]; exact HO.out.below (bAlloc (Below.refl _ _) _), bAlloc HB.out _⟩, by simp only [intOf]; omega⟩
      · have hkb : (f.id != id) = true := by simpa using hkd
        rw [hkb, if_pos rfl] at hsn
        have HS := Lib.hid hsn
        clear hsn hf
        go_wp2_with (at_builtin; refine wpList_append rfl (.tmp 20) (.tmp 22) 23 rfl w.heap.size 34 8 80 i0 _ Tryz.underlying23 hii hq0 hq1 hq2 rfl (by omega) A' m c' (((l.take k).filter fun g => g.id != id).map Factor.cells) rfl (HO.out.below (by repeat (first | with_reducible exact Below.refl _ _ | with_reducible refine bAlloc ?_ _ | with_reducible refine bDrew ?_ | with_reducible refine bDrewN ?_ _))) _ 1 1 [f.cells] rfl (Row.new1' _ _ f.cells 8 _ (by simp)) (by simp [Factor.cells]) (by simp [Factor.cells, Value.oneCell']) (by simp only [maxLen]; omega) (by omega) (by simp; omega) ?_; intro A5 c5 w5 ho5 hg5 hat5; have HB5 : Below w.heap.size w w5 := bGrown (by repeat (first | with_reducible exact HB.out | with_reducible refine bAlloc ?_ _ | with_reducible refine bDrew ?_ | with_reducible refine bDrewN ?_ _)) hg5 (fun q hq => (HO.out.lt q hq).1))
        exact ⟨⟨k + 1, m + 1, A5, c5, by omega, by simp, by simp, by omega, by rw [HS.out, List.length_append, hml]; rfl, by rw [HS.out, List.map_append]; exact ho5, HB5⟩, by simp only [intOf]; omega⟩
    · obtain rfl : k = n := by omega
      have hkk : ¬ (k : Int) < (k : Int) := by omega
      have hlk : l.length = k := HL.out
      have hT : l.take k = l := List.take_of_length_le (by omega)
      rw [hT] at HO hml
      have hfl := fil_len l id
      rw [hml, hlk] at hfl
      have HFL := Lib.hid hfl
      obtain ⟨b, hb⟩ : ∃ b, b = isFL l := ⟨_, rfl⟩
      have HBB := Lib.hid hb
      clear hT hfl hb
      go_wp2_with fail
      refine Calls.mono (spec_IsFactorList_c A k c l _ hm1 (Row.below HR.out HB.out) hs) ?_
      rw [← HBB.out]
      rintro e w2 ⟨rfl, hk2⟩
      have H2 := Lib.hid (bTrans HB.out hk2)
      have HO2 := Lib.hid (HO.out.below hk2)
      have hsz2 := H2.out.size
      by_cases hyes : b = true ∧ ¬ m = k
      · obtain ⟨rfl, hmk2⟩ := hyes
        have hh : hasId l id = true := by
          cases h : hasId l id with
          | true => rfl
          | false => exact absurd (HFL.out.2 h) hmk2
        have E : Hid (removeF l id = (l.filter (fun g => g.id != id), true)) := by unfold Hid removeF; rw [← HBB.out, hh]; rfl
        have hne : ((m : Int) == (k : Int)) = false := by simp only [beq_eq_false_iff_ne]; omega
        have hneI : ¬ (m : Int) = (k : Int) := by omega
        go_wp2_with fail
        refine bodyPost_ret (v := .tuple #[.slice A' m c', .bool true]) (by simp [*, results, Tryz.results109, go_sem]) rfl ⟨⟨A', m, c'⟩, by rw [E.out], ?_⟩
        rw [E.out]; exact ⟨HO2.out.zero, Fresh.obl_ HO2.out, H2.out⟩
      · have E : Hid (removeF l id = (l, false)) := by
          refine remF_no ?_
          rw [← HBB.out]
          cases b with
          | false => rfl
          | true =>
            have : m = k := by
              by_cases h : m = k
              · exact h
              · exact absurd ⟨rfl, h⟩ hyes
            rw [HFL.out.1 this]; rfl
        have hcase : b = false ∨ m = k := by
          by_cases h : m = k
          · exact .inr h
          · cases b with
            | false => exact .inl rfl
            | true => exact absurd ⟨rfl, h⟩ hyes
        clear hyes
        rcases hcase with rfl | rfl
        all_goals (try cases b)
        all_goals
          go_wp2_with (at_builtin; refine wpList_append rfl (.tmp 35) (.tmp 36) 23 rfl w.heap.size 34 8 80 i0 _ Tryz.underlying23 hii hq0 hq1 hq2 rfl (by omega) (some ⟨w2.heap.size, 0, none⟩) 0 0 [] rfl (Own.made0 w2 _ 8 (by omega)) A _ c (l.map Factor.cells) rfl (Row.below HR.out (bAlloc H2.out _)) one_F cell_F (by simp only [maxLen]; omega) (by omega) (by simp; omega) ?_; intro A5 c5 w5 ho5 hg5 hat5; have HB5 : Below w.heap.size w w5 := bGrown (by repeat (first | with_reducible exact H2.out | with_reducible refine bAlloc ?_ _ | with_reducible refine bDrew ?_ | with_reducible refine bDrewN ?_ _)) hg5 (fun q hq => by simp [ob] at hq; omega))
          simp only [Nat.zero_add, List.nil_append] at ho5
          first | (refine bodyPost_ret (v := .tuple #[.slice A5 k c5, .bool false]) (by simp [*, results, Tryz.results109, go_sem]) rfl ⟨⟨A5, k, c5⟩, by rw [E.out], ?_⟩; rw [E.out]; exact ⟨ho5.zero, Fresh.obl_ ho5, HB5⟩) | (refine bodyPost_ret (v := .tuple #[.slice A5 m c5, .bool false]) (by simp [*, results, Tryz.results109, go_sem]) rfl ⟨⟨A5, m, c5⟩, by rw [E.out], ?_⟩; rw [E.out]; exact ⟨ho5.zero, Fresh.obl_ ho5, HB5⟩)
end Go.Proofs.YtdfemnffpaopfaaGreatDoor

