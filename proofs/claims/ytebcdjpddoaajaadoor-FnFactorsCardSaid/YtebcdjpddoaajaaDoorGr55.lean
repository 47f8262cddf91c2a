/- Texts of this proof, one behind the other: WFactors. -/
import Derived.Test.YtebcdjpddoaajaaDoorGr17
import Derived.Test.YtebcdjpddoaajaaDoorGr29
import Derived.Test.YtebcdjpddoaajaaDoorGr30
import Derived.Test.YtebcdjpddoaajaaDoorGr49
import Derived.Test.YtebcdjpddoaajaaDoorGr54
/- The walk of the law FnFactors. -/
namespace Go.Proofs.YtebcdjpddoaajaaDoor
open Go.RowKit
set_option linter.unusedVariables false
set_option linter.unusedSimpArgs false
set_option maxHeartbeats 4000000
set_option maxRecDepth 100000
theorem vld_szF {f : Factor} (h : vldFactor f = true) : f.frm.size ≤ 1048576 ∧ f.to.size ≤ 1048576 := by
  obtain ⟨_, _, _, _, h5, h6, h7⟩ := vld_parts h
  have nm : ∀ (s : ByteArray) (c : Int), nmWith s c = true → s.size ≤ 8 := fun s c h => by
    unfold nmWith isNm at h
    simp only [Bool.and_eq_true, decide_eq_true_eq] at h
    exact h.1.1.2
  constructor
  · by_cases k : f.kind = 1
    · have e := h5 k
      rw [ByteArray.toList_eq] at e
      have : f.frm.data.toList.length = f.frm.size := by simp
      rw [show f.frm.data.toList = [] by simpa using e] at this
      simp at this; omega
    · have := nm _ _ (h6 k); omega
  · rcases h7 with h | h
    · have := nm _ _ h; omega
    · have := nm _ _ h; omega
section
variable {P : Program} {ops : Array Oper} {Q : Exit → Act → World → Prop} {a : Act} {w : World} {rest : List Oper} {o : Oper}
/-- an append behind a guard that holds -/
theorem wpList_append_g (hw : Region.wanted o (yielded ops a.tmps) = true) (s x : Operand) (t : TypeId)
    (ho : o.op = .call { callee := .builtin .append, args := #[s, x], argTypes := #[t, t] })
    (B e sz bytes : Nat) (i : TypeInfo) (z : Value) (ht : P.underlying t = some (.slice e)) (hi : P.info? e = some i) (hz : i.zero = some z)
    (hsize : i.size = sz) (hby : i.bytes = bytes) (hzs : z.cells.size = sz) (hsz : 0 < sz)
    (A : Option Addr) (n c : Nat) (css : List (List Value)) (hs : a.eval s = .slice A n c) (hown : Own w B e sz A n c css)
    (A2 : Option Addr) (m c2 : Nat) (news : List (List Value)) (hx : a.eval x = .slice A2 m c2) (hr : Row w A2 m sz news) (he : ∀ cs ∈ news, cs.length = sz) (h1 : ∀ cs ∈ news, ∀ u ∈ cs, u.oneCell' = true)
    (h63 : n + m ≤ maxLen) (hbytes : (n + m) * bytes ≤ 140737488355328) (hbase : B ≤ w.heap.size)
    (h : ∀ A' c' w', Own w' B e sz A' (n + m) c' (css ++ news) → w.grownBy w' (ob A) → (ob A' = ob A ∨ ob A' = some w.heap.size) → wpList P ops Q rest (a.put o.dst (.slice A' (n + m) c')) w') : wpList P ops Q (o :: rest) a w := by
  show (if Region.wanted o (yielded ops a.tmps) = true then _ else _)
  rw [if_pos hw]
  exact .inl (wp_append s x t ho B e sz bytes i z ht hi hz hsize hby hzs hsz A n c css hs hown A2 m c2 news hx hr he h1 h63 hbytes hbase h)
end
theorem w_FnFactors (W : World) (A : Option Addr) (n c : Nat) (hm : n ≤ maxLen) (hy : Bytes W A n) (hT : TabE W) :
    Calls Tryd.prog 3 #[.slice A n c] W fun e w' => e = rBool true ∧ Below W.heap.size W w' := by
  obtain ⟨i0, hii, hq0, hq1, hq2⟩ := info_parts info_Factor
  by_cases hn : n ≤ 1048576
  rotate_left
  · have hn' : (1048576 : Int) < (n : Int) := by omega
    go_enter Tryd.func3, Tryd.ntmps3
    go_wp2
    go_ret
    exact ⟨rfl, Below.refl _ _⟩
  have hn' : decide ((1048576 : Int) < (n : Int)) = false := by simp; omega
  have hy' := Lib.hid hy
  have HT := Lib.hid hT
  clear hy hm hT
  go_enter Tryd.func3, Tryd.ntmps3
  go_wp2_with fail
  refine Calls.mono (MakeFactors_c (W := W) (c := c) (Below.refl _ _) hy'.out hn) ?_
  rintro e w1 ⟨v, l, rfl, h8, hg, ho, hf, hb1⟩
  have hfl := hg.fl h8
  have hids := hg.ids h8
  have FL := Lib.hid hfl
  have IDS := Lib.hid hids
  have HF := Lib.hid hf
  have HO := Lib.hid ho
  have h8v : l.length ≤ 8 := h8
  have LEN : Hid (l.length = v.n) := ho.rd.len
  have SL := Own.slOk (v := v) ho
  clear hfl hids hg ho hf
  go_wp2_with fail
  refine Calls.mono (MakeFactor_c (W := W) (w := w1) (c := c) hb1 hy'.out hn 77 (by decide)) ?_
  rintro e w2 ⟨k, fr, tt, t, x, y, wt, rfl, hv, hb2⟩
  have HV := Lib.hid hv
  have hsz := vld_szF hv
  have hp : psFac (fmtFac ⟨77, k, fr, tt, ⟨t, x, y⟩, wt⟩) = some ⟨77, k, fr, tt, ⟨t, x, y⟩, wt⟩ := psFac_some (facOf_iff.2 ⟨hv, rfl⟩)
  have HP := Lib.hid (show vFacO (psFac (fmtFac ⟨77, k, fr, tt, ⟨t, x, y⟩, wt⟩)) = .tuple #[vFactor 77 k fr tt t x y wt, .bool true] by rw [hp]; rfl)
  have hfs := fmtFac_size ⟨77, k, fr, tt, ⟨t, x, y⟩, wt⟩
  generalize hF : fmtFac ⟨77, k, fr, tt, ⟨t, x, y⟩, wt⟩ = F at HP hfs
  have HFF := Lib.hid hF
  have H2 := Lib.hid (bTrans hb1 hb2)
  have HO2 := Lib.hid (HO.out.below hb2)
  have bx2 := Bk.new w2 [.int .i64 77, .int .i64 k, .string fr, .string tt, .int .i64 t, .int .i64 x, .int .i64 y, .int .i64 wt] 28 _ rfl
  have hB2 := bAlloc (Below.refl w2.heap.size w2) (.cells #[.int .i64 77, .int .i64 k, .string fr, .string tt, .int .i64 t, .int .i64 x, .int .i64 y, .int .i64 wt] 28)
  clear hv hp hF hb1 hb2 HO
  go_wp2_with fail
  refine Calls.mono (impl_FormatFactor_c _ _ _ _ _ _ _ _ _ hsz.1 hsz.2 ((HT.out.below (bAlloc H2.out _)).tab)) ?_
  rw [HFF.out]
  rintro e w3 ⟨rfl, hb3⟩
  have bx3 := bx2.below hb3
  have hB3 := bTrans hB2 hb3
  go_wp2_with fail
  refine Calls.mono (impl_ParseFactor_c F _ (by omega) (HT.out.below (bTrans H2.out hB3))) ?_
  rw [HP.out]
  rintro e w4 ⟨rfl, hb4⟩
  have bx4 := bx3.below hb4
  have hB4 := bTrans hB3 hb4
  have gx4 := Bk.new w4 [.int .i64 77, .int .i64 k, .string fr, .string tt, .int .i64 t, .int .i64 x, .int .i64 y, .int .i64 wt] 28 _ rfl
  have bx4' := bx4.alloc_ (.cells #[.int .i64 77, .int .i64 k, .string fr, .string tt, .int .i64 t, .int .i64 x, .int .i64 y, .int .i64 wt] 28)
  have hB4' := bAlloc hB4 (.cells #[.int .i64 77, .int .i64 k, .string fr, .string tt, .int .i64 t, .int .i64 x, .int .i64 y, .int .i64 wt] 28)
  have H4 := Lib.hid (bTrans H2.out hB4')
  have HO4 := Lib.hid (HO2.out.below hB4')
  have hne4 : ¬ w2.heap.size = w4.heap.size := by have := bx4.lt; omega
  obtain ⟨f, hfd⟩ : ∃ f : Factor, f = ⟨77, k, fr, tt, ⟨t, x, y⟩, wt⟩ := ⟨_, rfl⟩
  have HVf : Hid (vldFactor f = true) := by rw [hfd]; exact HV.out
  have Hid77 : Hid (f.id = 77) := by rw [hfd]; rfl
  have Hlt : Hid (∀ g ∈ l, g.id < f.id) := by intro g hg; rw [Hid77.out]; exact IDS.out g hg
  have Hsz : Hid (f.frm.size ≤ 1048576 ∧ f.to.size ≤ 1048576) := by rw [hfd]; exact hsz
  have Hki : Hid (f.kind = k) := by rw [hfd]; rfl
  have HFD := Lib.hid hfd
  clear hb3 hb4 bx2 hB2 bx3 hB3 bx4 hB4 hsz hfs hfd
  have q0 := bx4'.bx.cells 0 _ rfl; have q1 := bx4'.bx.cells 1 _ rfl; have q2 := bx4'.bx.cells 2 _ rfl; have q3 := bx4'.bx.cells 3 _ rfl; have q4 := bx4'.bx.cells 4 _ rfl; have q5 := bx4'.bx.cells 5 _ rfl; have q6 := bx4'.bx.cells 6 _ rfl; have q7 := bx4'.bx.cells 7 _ rfl
  have r0 := gx4.bx.cells 0 _ rfl; have r1 := gx4.bx.cells 1 _ rfl; have r2 := gx4.bx.cells 2 _ rfl; have r3 := gx4.bx.cells 3 _ rfl; have r4 := gx4.bx.cells 4 _ rfl; have r5 := gx4.bx.cells 5 _ rfl; have r6 := gx4.bx.cells 6 _ rfl; have r7 := gx4.bx.cells 7 _ rfl
  go_wp2_with fail
  refine Calls.mono (by have h := impl_AddFactor_k v l f (w4.alloc (.cells #[.int .i64 77, .int .i64 k, .string fr, .string tt, .int .i64 t, .int .i64 x, .int .i64 y, .int .i64 wt] 28)) (by unfold fewF; omega) (bulkF_small (isFL_bulk FL.out)) Hsz.out SL HO4.out.rd; rw [HFD.out] at h; exact h) ?_
  rw [← HFD.out]
  rintro e w5 ⟨v5, rfl, ho5, hf5, hb5⟩
  have bx5 := bx4'.below hb5
  have gx5 := gx4.below hb5
  have H5 := Lib.hid (bTrans H4.out hb5)
  have HO5 := Lib.hid (HO4.out.below hb5)
  clear q0 q1 q2 q3 q4 q5 q6 q7 r0 r1 r2 r3 r4 r5 r6 r7 bx4' gx4 hB4' hb5 hf5
  cases had : (addF l f).2 with
  | false =>
    have hM : (addF l f).1 = l := by
      unfold addF at had ⊢
      split
      · rename_i hc; rw [if_pos hc] at had; cases had
      · rfl
    rw [hM] at ho5
    have HNM := Lib.hid (fct_no FL.out h8v Hlt.out HVf.out had)
    have SL5 := Own.slOk (v := v5) ho5
    clear had hM
    go_wp2_with fail
    refine Calls.mono (impl_RemoveFactor_k v5 l 77 _ (by unfold fewF; omega) (bulkF_small (isFL_bulk FL.out)) SL5 ho5.rd) ?_
    rintro e w6 ⟨v6, rfl, ho6, hf6, hb6⟩
    have bx6 := bx5.below hb6
    have gx6 := gx5.below hb6
    have H6 := Lib.hid (bTrans H5.out hb6)
    have HO6 := Lib.hid (HO5.out.below hb6)
    clear ho5 ho6 hf6 bx5 gx5 hb6
    have q0 := bx6.bx.cells 0 _ rfl; have q1 := bx6.bx.cells 1 _ rfl; have q2 := bx6.bx.cells 2 _ rfl; have q3 := bx6.bx.cells 3 _ rfl; have q4 := bx6.bx.cells 4 _ rfl; have q5 := bx6.bx.cells 5 _ rfl; have q6 := bx6.bx.cells 6 _ rfl; have q7 := bx6.bx.cells 7 _ rfl
    have r0 := gx6.bx.cells 0 _ rfl; have r1 := gx6.bx.cells 1 _ rfl; have r2 := gx6.bx.cells 2 _ rfl; have r3 := gx6.bx.cells 3 _ rfl; have r4 := gx6.bx.cells 4 _ rfl; have r5 := gx6.bx.cells 5 _ rfl; have r6 := gx6.bx.cells 6 _ rfl; have r7 := gx6.bx.cells 7 _ rfl
    go_wp2_with fail
    refine Calls.mono (impl_IsFactorList_c v.A v.n v.c l _ (by have := LEN.out; omega) HO6.out.rd (bulkF_small (isFL_bulk FL.out))) ?_
    rw [FL.out]
    rintro e w7 ⟨rfl, hb7⟩
    have bx7 := bx6.below hb7
    have H7 := Lib.hid (bTrans H6.out hb7)
    have HO7 := Lib.hid (HO6.out.below hb7)
    clear q0 q1 q2 q3 q4 q5 q6 q7 r0 r1 r2 r3 r4 r5 r6 r7 bx6 gx6 hb7
    have q0 := bx7.bx.cells 0 _ rfl; have q1 := bx7.bx.cells 1 _ rfl; have q2 := bx7.bx.cells 2 _ rfl; have q3 := bx7.bx.cells 3 _ rfl; have q4 := bx7.bx.cells 4 _ rfl; have q5 := bx7.bx.cells 5 _ rfl; have q6 := bx7.bx.cells 6 _ rfl; have q7 := bx7.bx.cells 7 _ rfl
    go_wp2_with (at_builtin; refine wpList_append_g (by first | rfl | (simp [Region.wanted, yielded]; done)) (.tmp 48) (.tmp 50) 23 rfl 0 28 8 80 i0 _ Tryd.underlying23 hii hq0 hq1 hq2 rfl (by omega) v.A v.n v.c (l.map Factor.cells) rfl ((OwF.own HO7.out).below (by repeat (first | with_reducible exact Below.refl _ _ | with_reducible refine bAlloc ?_ _ | with_reducible refine bDrew ?_ | with_reducible refine bDrewN ?_ _))) _ 1 1 [[.int .i64 77, .int .i64 k, .string fr, .string tt, .int .i64 t, .int .i64 x, .int .i64 y, .int .i64 wt]] rfl (Row.new1' _ _ [.int .i64 77, .int .i64 k, .string fr, .string tt, .int .i64 t, .int .i64 x, .int .i64 y, .int .i64 wt] 8 _ (by simp)) (by simp) (by simp [Value.oneCell']) (by have h : l.length = v.n := LEN.out; simp only [maxLen]; omega) (by have h : l.length = v.n := LEN.out; omega) (by simp) ?_; intro A8 c8 w8 ho8 hg8 hat8; have H8 : Below W.heap.size W w8 := bGrown (by repeat (first | with_reducible exact H7.out | with_reducible refine bAlloc ?_ _ | with_reducible refine bDrew ?_ | with_reducible refine bDrewN ?_ _)) hg8 (fun q hq => HF.out.lo q (mem_obl.2 hq)))
    have hrow8 : RowF w8 A8 (v.n + 1) (l ++ [f]) := by
      have h := ho8.row
      rw [show l.map Factor.cells ++ [[.int .i64 77, .int .i64 k, .string fr, .string tt, .int .i64 t, .int .i64 x, .int .i64 y, .int .i64 wt]] = (l ++ [f]).map Factor.cells by rw [List.map_append, HFD.out]; rfl] at h
      exact h
    clear ho8
    refine Calls.mono (impl_NamesOf_c A8 (v.n + 1) c8 (l ++ [f]) _ (by have h : l.length = v.n := LEN.out; omega) hrow8) ?_
    rintro e w9 hpost
    obtain ⟨v9, rfl, ho9, hb9, _⟩ := hpost
    have h9 : (namesOf (l ++ [f])).length = v9.n := by have := ho9.lens; simpa [Hid] using this
    clear ho9
    have hge : (10 : Int) ≤ (v9.n : Int) := by rw [← h9]; have := HNM.out; omega
    have H9 := bTrans H8 hb9
    go_wp2_with fail
    go_ret
    exact ⟨rfl, H9⟩
  | true =>
    obtain ⟨hM, hMF⟩ := fct_yes Hlt.out had
    rw [hM] at ho5
    have HR := Lib.hid (rem_end Hlt.out hMF)
    have MF := Lib.hid hMF
    have SL5 := Own.slOk (v := v5) ho5
    have LM : Hid ((l ++ [f]).length = v5.n) := ho5.rd.len
    have hml : (l ++ [f]).length ≤ 9 := by simp; omega
    have HM5 := Lib.hid ho5
    clear had hM hMF ho5
    go_wp2_with fail
    refine Calls.mono (impl_RemoveFactor_k v5 (l ++ [f]) 77 _ (by unfold fewF; omega) (bulkF_small (isFL_bulk MF.out)) SL5 HM5.out.rd) ?_
    rw [show removeF (l ++ [f]) 77 = (l, true) by rw [← Hid77.out]; exact HR.out]
    rintro e w6 ⟨v6, rfl, ho6, hf6, hb6⟩
    have bx6 := bx5.below hb6
    have gx6 := gx5.below hb6
    have H6 := Lib.hid (bTrans H5.out hb6)
    have HO6 := Lib.hid (HO5.out.below hb6)
    have HM6 := Lib.hid (HM5.out.below hb6)
    have HN6 := Lib.hid ho6
    have L6 : Hid (l.length = v6.n) := ho6.rd.len
    clear ho6 hf6 bx5 gx5 hb6
    have q0 := bx6.bx.cells 0 _ rfl; have q1 := bx6.bx.cells 1 _ rfl; have q2 := bx6.bx.cells 2 _ rfl; have q3 := bx6.bx.cells 3 _ rfl; have q4 := bx6.bx.cells 4 _ rfl; have q5 := bx6.bx.cells 5 _ rfl; have q6 := bx6.bx.cells 6 _ rfl; have q7 := bx6.bx.cells 7 _ rfl
    have r0 := gx6.bx.cells 0 _ rfl; have r1 := gx6.bx.cells 1 _ rfl; have r2 := gx6.bx.cells 2 _ rfl; have r3 := gx6.bx.cells 3 _ rfl; have r4 := gx6.bx.cells 4 _ rfl; have r5 := gx6.bx.cells 5 _ rfl; have r6 := gx6.bx.cells 6 _ rfl; have r7 := gx6.bx.cells 7 _ rfl
    go_wp2_with fail
    refine Calls.mono (impl_SameFactors_c v6.A v.A v6.n v.n v6.c v.c l l _ (by have h : l.length = v6.n := L6.out; omega) (by have h : l.length = v.n := LEN.out; omega) HN6.out.rd HO6.out.rd) ?_
    rw [sameL_refl]
    rintro e w7 ⟨rfl, hb7⟩
    have bx7 := bx6.below hb7
    have H7 := Lib.hid (bTrans H6.out hb7)
    have HM7 := Lib.hid (HM6.out.below hb7)
    clear q0 q1 q2 q3 q4 q5 q6 q7 r0 r1 r2 r3 r4 r5 r6 r7 bx6 gx6 hb7
    have q0 := bx7.bx.cells 0 _ rfl; have q1 := bx7.bx.cells 1 _ rfl; have q2 := bx7.bx.cells 2 _ rfl; have q3 := bx7.bx.cells 3 _ rfl; have q4 := bx7.bx.cells 4 _ rfl; have q5 := bx7.bx.cells 5 _ rfl; have q6 := bx7.bx.cells 6 _ rfl; have q7 := bx7.bx.cells 7 _ rfl
    go_wp2_with fail
    refine Calls.mono (impl_IsFactorList_c v5.A v5.n v5.c (l ++ [f]) _ (by have h : (l ++ [f]).length = v5.n := LM.out; omega) HM7.out.rd (bulkF_small (isFL_bulk MF.out))) ?_
    rw [MF.out]
    rintro e w8 ⟨rfl, hb8⟩
    have bx8 := bx7.below hb8
    have H8 := Lib.hid (bTrans H7.out hb8)
    have HM8 := Lib.hid (HM7.out.below hb8)
    clear q0 q1 q2 q3 q4 q5 q6 q7 bx7 hb8
    have q0 := bx8.bx.cells 0 _ rfl; have q1 := bx8.bx.cells 1 _ rfl; have q2 := bx8.bx.cells 2 _ rfl; have q3 := bx8.bx.cells 3 _ rfl; have q4 := bx8.bx.cells 4 _ rfl; have q5 := bx8.bx.cells 5 _ rfl; have q6 := bx8.bx.cells 6 _ rfl; have q7 := bx8.bx.cells 7 _ rfl
    go_wp2_with fail
    refine Calls.mono (FactorIds_c v5.A v5.n v5.c (l ++ [f]) k _ (by have h : (l ++ [f]).length = v5.n := LM.out; omega) HM8.out.rd) ?_
    rintro e w9 ⟨v9, rfl, hr9, hn9, hb9⟩
    have hin : decide ((77 : Int) ∈ idsOf (l ++ [f]) k) = true := by
      apply decide_eq_true
      unfold idsOf
      exact List.mem_map.2 ⟨f, List.mem_filter.2 ⟨by simp, by rw [Hki.out]; simp⟩, Hid77.out⟩
    have H9 := Lib.hid (bTrans H8.out hb9)
    go_wp2_with fail
    refine Calls.mono (hasIntL_c v9.A v9.n v9.c _ 77 _ (by have h : (l ++ [f]).length = v5.n := LM.out; omega) hr9) ?_
    rw [hin]
    rintro e w10 ⟨rfl, hw10⟩
    subst hw10
    go_wp2_with fail
    go_ret
    exact ⟨rfl, H9.out⟩
end Go.Proofs.YtebcdjpddoaajaaDoor
