/- Texts of this proof, one behind the other: PrsF. -/
import Derived.Test.YtebcdjpddoaajaaDoorGr18
/- The pose and the factor whose text is given; what the words of such a text are. Plain. -/
namespace Go.Proofs.YtebcdjpddoaajaaDoor
open Go.RowKit
set_option linter.unusedVariables false
set_option linter.unusedSimpArgs false
set_option maxRecDepth 100000
/-- the one that fits, if there is one -/
noncomputable def the {α : Type} (P : α → Prop) : Option α :=
  open Classical in if h : ∃ a, P a then some (Classical.choose h) else none
theorem the_some {α : Type} {P : α → Prop} {a : α} (hu : ∀ b, P b → b = a) (h : P a) : the P = some a := by
  unfold the
  rw [dif_pos ⟨a, h⟩, hu _ (Classical.choose_spec (p := P) ⟨a, h⟩)]
theorem the_none {α : Type} {P : α → Prop} (h : ∀ a, ¬ P a) : the P = none := by
  unfold the
  rw [dif_neg]
  rintro ⟨a, ha⟩; exact h a ha
theorem the_text {α : Type} {P : α → Prop} {a : α} (h : the P = some a) : P a := by
  unfold the at h
  split at h
  case isTrue hx =>
    have hc := Classical.choose_spec hx
    injection h with h
    rw [h] at hc; exact hc
  case isFalse => cases h
/-! ### signs -/
/-- a sign of a word -/
def wd (b : UInt8) : Prop := b.toNat = 45 ∨ (48 ≤ b.toNat ∧ b.toNat ≤ 57) ∨ (97 ≤ b.toNat ∧ b.toNat ≤ 122)
theorem wd_no {c b : UInt8} (hc : c = 44 ∨ c = 32 ∨ c = 59 ∨ c = 10 ∨ c = 35) (h : wd b) : isB c b = false := by
  unfold isB
  unfold wd at h
  simp only [beq_eq_false_iff_ne]
  rintro rfl
  rcases hc with rfl | rfl | rfl | rfl | rfl <;> revert h <;> decide
theorem itoa_wd (n : Int) : ∀ b ∈ Lib.itoa n, wd b := by
  intro b hb
  rcases itoa_signs n b hb with h | h
  · exact .inl h
  · exact .inr (.inl h)
theorem turn_wd {t : Int} (h0 : 0 ≤ t) (h1 : t ≤ 3) : wd (turnB t) := by
  obtain rfl | rfl | rfl | rfl : t = 0 ∨ t = 1 ∨ t = 2 ∨ t = 3 := by omega
  all_goals (unfold wd; decide)
theorem turnB_inj {t u : Int} (h0 : 0 ≤ t) (h1 : t ≤ 3) (g0 : 0 ≤ u) (g1 : u ≤ 3) (h : turnB t = turnB u) : t = u := by
  obtain rfl | rfl | rfl | rfl : t = 0 ∨ t = 1 ∨ t = 2 ∨ t = 3 := by omega
  all_goals (obtain rfl | rfl | rfl | rfl : u = 0 ∨ u = 1 ∨ u = 2 ∨ u = 3 := by omega)
  all_goals (first | rfl | (revert h; decide))
theorem kind_wd (k : Int) : ∀ b ∈ kindL k, wd b := by
  unfold kindL wd
  split
  · decide
  split
  · decide
  split
  · decide
  · decide
theorem kindL_inj {k j : Int} (hk : k = 1 ∨ k = 2 ∨ k = 3 ∨ k = 4) (hj : j = 1 ∨ j = 2 ∨ j = 3 ∨ j = 4) (h : kindL k = kindL j) : k = j := by
  rcases hk with rfl | rfl | rfl | rfl <;> rcases hj with rfl | rfl | rfl | rfl
  all_goals (first | rfl | (revert h; decide))
theorem namL_wd : ∀ (l : List UInt8) (b : Bool), namL l b = true → ∀ x ∈ l, wd x
  | [], _, _, x, hx => by simp at hx
  | a :: l, b, h, x, hx => by
    rw [namL, Bool.and_eq_true] at h
    rcases List.mem_cons.1 hx with rfl | hx
    · have h1 := h.1
      unfold okByte at h1
      simp only [Bool.or_eq_true, Bool.and_eq_true, decide_eq_true_eq] at h1
      unfold wd
      omega
    · exact namL_wd l false h.2 x hx
theorem nm_wd {s : ByteArray} {c : Int} (h : nmWith s c = true) : ∀ x ∈ s.data.toList, wd x := by
  unfold nmWith isNm at h
  simp only [Bool.and_eq_true] at h
  exact namL_wd _ _ h.1.2
theorem no_of {c : UInt8} (hc : c = 44 ∨ c = 32 ∨ c = 59 ∨ c = 10 ∨ c = 35) {l : List UInt8} (h : ∀ b ∈ l, wd b) : ∀ b ∈ l, isB c b = false := fun b hb => wd_no hc (h b hb)
theorem isB_self (c : UInt8) : isB c c = true := by simp [isB]
/-! ### the pose -/
def PoseOf (s : ByteArray) (p : Pose) : Prop := vldPose p.turn p.x p.y = true ∧ poseL p.turn p.x p.y = s.data.toList
theorem pose_rng {t x y : Int} (h : vldPose t x y = true) : (0 ≤ t ∧ t ≤ 3) ∧ (-1000000 ≤ x ∧ x ≤ 1000000) ∧ (-1000000 ≤ y ∧ y ≤ 1000000) := by
  unfold vldPose at h
  simp only [Bool.and_eq_true, inR_iff] at h
  exact ⟨h.1, h.2.1, h.2.2⟩
theorem pose_split {t x y : Int} (h : vldPose t x y = true) : splitL (isB 44) [] (poseL t x y) = [Lib.itoa x, Lib.itoa y, [turnB t]] := by
  obtain ⟨⟨t0, t1⟩, _, _⟩ := pose_rng h
  unfold poseL
  rw [splitL_word (isB_self 44) _ _ _ (no_of (by simp) (itoa_wd x)),
    show Lib.itoa y ++ [44, turnB t] = Lib.itoa y ++ 44 :: [turnB t] from rfl,
    splitL_word (isB_self 44) _ _ _ (no_of (by simp) (itoa_wd y)),
    splitL_last _ _ (by intro b hb; rw [List.mem_singleton.1 hb]; exact wd_no (by simp) (turn_wd t0 t1))]
  rfl
theorem pose_words {s : ByteArray} {p : Pose} {L : List ByteArray} (h : PoseOf s p) (hL : L.map (fun x => x.data.toList) = splitL (isB 44) [] s.data.toList) :
    ∃ a b c, L = [a, b, c] ∧ psI a = some p.x ∧ psI b = some p.y ∧ c.data.toList = [turnB p.turn] := by
  rw [← h.2, pose_split h.1] at hL
  obtain ⟨_, hx, hy⟩ := pose_rng h.1
  rcases L with _ | ⟨a, _ | ⟨b, _ | ⟨c, _ | ⟨d, L⟩⟩⟩⟩
  all_goals simp only [List.map_cons, List.map_nil, List.cons.injEq, reduceCtorEq, and_false, and_true, List.nil_eq, List.cons_ne_nil] at hL
  · exact ⟨a, b, c, rfl, psI_some (by omega) (by omega) (bext (by rw [hL.1]; simp [itoaB])), psI_some (by omega) (by omega) (bext (by rw [hL.2.1]; simp [itoaB])), hL.2.2⟩
theorem words_of (s : ByteArray) (c : UInt8) : ∃ L : List ByteArray, L.map (fun x => x.data.toList) = splitL (isB c) [] s.data.toList :=
  ⟨(splitL (isB c) [] s.data.toList).map fun l => ⟨l.toArray⟩, by simp [Function.comp_def]⟩
theorem pose_one {s : ByteArray} {p q : Pose} (h : PoseOf s p) (g : PoseOf s q) : p = q := by
  obtain ⟨L, hL⟩ := words_of s 44
  obtain ⟨a, b, c, rfl, hx, hy, ht⟩ := pose_words h hL
  obtain ⟨a', b', c', e, hx', hy', ht'⟩ := pose_words g hL
  simp only [List.cons.injEq, and_true] at e
  obtain ⟨rfl, rfl, rfl⟩ := e
  rw [hx] at hx'; rw [hy] at hy'; rw [ht] at ht'
  obtain ⟨t, x, y⟩ := p
  obtain ⟨t', x', y'⟩ := q
  simp only [Option.some.injEq, List.cons.injEq, and_true] at hx' hy' ht'
  have r := pose_rng h.1
  have r' := pose_rng g.1
  simp only at r r' ht'
  have := turnB_inj r.1.1 r.1.2 r'.1.1 r'.1.2 ht'
  rw [hx', hy', this]
noncomputable def psPose (s : ByteArray) : Option Pose := the (PoseOf s)
theorem psPose_some {s : ByteArray} {p : Pose} (h : PoseOf s p) : psPose s = some p := the_some (fun q hq => pose_one hq h) h
theorem psPose_none {s : ByteArray} (h : ∀ p, ¬ PoseOf s p) : psPose s = none := the_none h
theorem psPose_text {s : ByteArray} {p : Pose} (h : psPose s = some p) : PoseOf s p := the_text h
theorem poseOf_iff {s : ByteArray} {t x y : Int} : PoseOf s ⟨t, x, y⟩ ↔ vldPose t x y = true ∧ fmtPose t x y = s := by
  constructor
  · intro h
    refine ⟨h.1, ?_⟩
    unfold fmtPose
    rw [if_pos h.1]
    exact bext (by rw [← h.2])
  · intro h
    refine ⟨h.1, ?_⟩
    have := h.2
    unfold fmtPose at this
    rw [if_pos h.1] at this
    rw [← this]
/-! ### the factor -/
def FacOf (s : ByteArray) (f : Factor) : Prop := vldFactor f = true ∧ facL f = s.data.toList
theorem pose_no32 {t x y : Int} (h : vldPose t x y = true) {c : UInt8} (hc : c = 32 ∨ c = 59 ∨ c = 10 ∨ c = 35) : ∀ b ∈ poseL t x y, isB c b = false := by
  obtain ⟨⟨t0, t1⟩, _, _⟩ := pose_rng h
  have hc' : c = 44 ∨ c = 32 ∨ c = 59 ∨ c = 10 ∨ c = 35 := .inr hc
  have h44 : isB c 44 = false := by rcases hc with rfl | rfl | rfl | rfl <;> decide
  intro b hb
  unfold poseL at hb
  simp only [List.mem_append, List.mem_cons, List.not_mem_nil, or_false] at hb
  rcases hb with hb | rfl | hb | rfl | rfl
  · exact wd_no hc' (itoa_wd _ _ hb)
  · exact h44
  · exact wd_no hc' (itoa_wd _ _ hb)
  · exact h44
  · exact wd_no hc' (turn_wd t0 t1)
theorem to_wd {f : Factor} (h : vldFactor f = true) : ∀ b ∈ f.to.data.toList, wd b := by
  obtain ⟨_, _, _, _, _, _, h⟩ := vld_parts h
  rcases h with h | h
  · exact nm_wd h
  · exact nm_wd h
theorem fac_split {f : Factor} (h : vldFactor f = true) : splitL (isB 32) [] (facL f) = kindL f.kind :: Lib.itoa f.id :: ((if f.kind = 1 then [] else [f.frm.data.toList]) ++ [f.to.data.toList, poseL f.pose.turn f.pose.x f.pose.y, Lib.itoa f.weight]) := by
  obtain ⟨h1, h2, h3, h4, h5, h6, h7⟩ := vld_parts h
  unfold facL
  have tail : splitL (isB 32) [] (f.to.data.toList ++ 32 :: (poseL f.pose.turn f.pose.x f.pose.y ++ 32 :: Lib.itoa f.weight)) = [f.to.data.toList, poseL f.pose.turn f.pose.x f.pose.y, Lib.itoa f.weight] := by
    rw [splitL_word (isB_self 32) _ _ _ (no_of (by simp) (to_wd h)), splitL_word (isB_self 32) _ _ _ (pose_no32 h3 (by simp)), splitL_last _ _ (no_of (by simp) (itoa_wd _))]
    rfl
  rw [splitL_word (isB_self 32) _ _ _ (no_of (by simp) (kind_wd _)), splitL_word (isB_self 32) _ _ _ (no_of (by simp) (itoa_wd _))]
  by_cases hk : f.kind = 1
  · rw [if_pos hk, show frmL f.kind f.frm = [] by unfold frmL; rw [if_pos hk]]
    simp only [List.nil_append]
    rw [tail]
  · rw [if_neg hk, show frmL f.kind f.frm = f.frm.data.toList ++ [32] by unfold frmL; rw [if_neg hk]]
    simp only [List.append_assoc, List.cons_append, List.nil_append]
    rw [splitL_word (isB_self 32) _ _ _ (no_of (by simp) (nm_wd (h6 hk))), tail]
    rfl
theorem fac_words {s : ByteArray} {f : Factor} {L : List ByteArray} (h : FacOf s f) (hL : L.map (fun x => x.data.toList) = splitL (isB 32) [] s.data.toList) :
    ((L.length = 5 ∧ f.kind = 1 ∧ f.frm = ⟨#[]⟩) ∨ (L.length = 6 ∧ f.kind ≠ 1 ∧ L[2]? = some f.frm)) ∧ (∃ w0, L[0]? = some w0 ∧ w0.data.toList = kindL f.kind) ∧
    (∃ w1, L[1]? = some w1 ∧ psI w1 = some f.id) ∧ L[L.length - 3]? = some f.to ∧ (∃ w4, L[L.length - 2]? = some w4 ∧ psPose w4 = some f.pose) ∧ ∃ w5, L[L.length - 1]? = some w5 ∧ psI w5 = some f.weight := by
  rw [← h.2, fac_split h.1] at hL
  obtain ⟨h1, h2, h3, h4, h5, h6, h7⟩ := vld_parts h.1
  have i1 := inR_iff.1 h1
  have i2 := inR_iff.1 h2
  have hp : PoseOf ⟨(poseL f.pose.turn f.pose.x f.pose.y).toArray⟩ f.pose := ⟨h3, by simp⟩
  by_cases hk : f.kind = 1
  · rw [if_pos hk] at hL
    have hf : f.frm = ⟨#[]⟩ := by
      have := h5 hk
      rw [ByteArray.toList_eq] at this
      exact bext (by simpa using this)
    rcases L with _ | ⟨a, _ | ⟨b, _ | ⟨c, _ | ⟨d, _ | ⟨e, _ | ⟨g, L⟩⟩⟩⟩⟩⟩
    all_goals simp only [List.map_cons, List.map_nil, List.nil_append, List.cons.injEq, reduceCtorEq, and_false, and_true, List.nil_eq, List.cons_ne_nil] at hL
    obtain ⟨e0, e1, e2, e3, e4⟩ := hL
    have x3 : d = ⟨(poseL f.pose.turn f.pose.x f.pose.y).toArray⟩ := bext (by rw [e3])
    exact ⟨.inl ⟨rfl, hk, hf⟩, ⟨a, rfl, e0⟩, ⟨b, rfl, psI_some (by omega) (by omega) (bext (by rw [e1]; simp [itoaB]))⟩, by simp; exact bext e2, ⟨d, rfl, by rw [x3]; exact psPose_some hp⟩, e, rfl, psI_some (by omega) (by omega) (bext (by rw [e4]; simp [itoaB]))⟩
  · rw [if_neg hk] at hL
    rcases L with _ | ⟨a, _ | ⟨b, _ | ⟨c, _ | ⟨d, _ | ⟨e, _ | ⟨g, _ | ⟨z, L⟩⟩⟩⟩⟩⟩⟩
    all_goals simp only [List.map_cons, List.map_nil, List.nil_append, List.cons_append, List.cons.injEq, reduceCtorEq, and_false, and_true, List.nil_eq, List.cons_ne_nil] at hL
    obtain ⟨e0, e1, e2, e3, e4, e5⟩ := hL
    have x3 : e = ⟨(poseL f.pose.turn f.pose.x f.pose.y).toArray⟩ := bext (by rw [e4])
    exact ⟨.inr ⟨rfl, hk, by simp; exact bext e2⟩, ⟨a, rfl, e0⟩, ⟨b, rfl, psI_some (by omega) (by omega) (bext (by rw [e1]; simp [itoaB]))⟩, by simp; exact bext e3, ⟨e, rfl, by rw [x3]; exact psPose_some hp⟩, g, rfl, psI_some (by omega) (by omega) (bext (by rw [e5]; simp [itoaB]))⟩
theorem fac_one {s : ByteArray} {f g : Factor} (h : FacOf s f) (k : FacOf s g) : f = g := by
  obtain ⟨L, hL⟩ := words_of s 32
  obtain ⟨a1, ⟨w0, a2, a3⟩, ⟨w1, a4, a5⟩, a6, ⟨w4, a7, a8⟩, w5, a9, a10⟩ := fac_words h hL
  obtain ⟨b1, ⟨v0, b2, b3⟩, ⟨v1, b4, b5⟩, b6, ⟨v4, b7, b8⟩, v5, b9, b10⟩ := fac_words k hL
  rw [a2] at b2; rw [a4] at b4; rw [a6] at b6; rw [a7] at b7; rw [a9] at b9
  simp only [Option.some.injEq] at b2 b4 b6 b7 b9
  subst b2 b4 b7 b9
  rw [a5] at b5; rw [a8] at b8; rw [a10] at b10
  simp only [Option.some.injEq] at b5 b8 b10
  have hk := kindL_inj (vld_parts h.1).2.2.2.1 (vld_parts k.1).2.2.2.1 (a3.symm.trans b3)
  have hf : f.frm = g.frm := by
    rcases a1 with ⟨n1, _, r1⟩ | ⟨n1, _, r1⟩ <;> rcases b1 with ⟨n2, _, r2⟩ | ⟨n2, _, r2⟩
    · rw [r1, r2]
    · omega
    · omega
    · rw [r1] at r2; simpa using r2
  obtain ⟨fi, fk, ff, ft, fp, fw⟩ := f
  obtain ⟨gi, gk, gf, gt, gp, gw⟩ := g
  simp only at b5 b8 b10 b6 hk hf
  rw [b5, b8, b10, b6, hk, hf]
noncomputable def psFac (s : ByteArray) : Option Factor := the (FacOf s)
theorem psFac_some {s : ByteArray} {p : Factor} (h : FacOf s p) : psFac s = some p := the_some (fun q hq => fac_one hq h) h
theorem psFac_none {s : ByteArray} (h : ∀ p, ¬ FacOf s p) : psFac s = none := the_none h
theorem psFac_text {s : ByteArray} {p : Factor} (h : psFac s = some p) : FacOf s p := the_text h
theorem facOf_iff {s : ByteArray} {f : Factor} : FacOf s f ↔ vldFactor f = true ∧ fmtFac f = s := by
  constructor
  · intro h
    refine ⟨h.1, ?_⟩
    unfold fmtFac
    rw [if_pos h.1]
    exact bext (by rw [← h.2])
  · intro h
    refine ⟨h.1, ?_⟩
    have := h.2
    unfold fmtFac at this
    rw [if_pos h.1] at this
    rw [← this]
end Go.Proofs.YtebcdjpddoaajaaDoor
