/- Teams, lists of channels, lists of bundles: how they lie in memory; what the laws' helpers count and mark on them. No program in sight but the types' numbers. -/
import Derived.Test.YtadmeijogbljhaaChan2
import Derived.Test.YtadmeijogbljhaaBun
namespace Go.Proofs.Ytadmeijogbljhaa
open Go.RowKit
set_option linter.unusedVariables false
set_option linter.unusedSimpArgs false
set_option maxHeartbeats 400000
/-! ### lists whose elements are counted and marked one behind the other -/
section
variable {α : Type} (cnt : α → Nat) (mk : Int → α → α)
def mkAll : Int → List α → List α
  | _, [] => []
  | k, x :: l => mk k x :: mkAll (k + cnt x) l
theorem mkAll_len : ∀ (k : Int) (l : List α), (mkAll cnt mk k l).length = l.length
  | _, [] => rfl
  | k, x :: l => by simp [mkAll, mkAll_len _ l]
theorem mkAll_append : ∀ (k : Int) (l m : List α), mkAll cnt mk k (l ++ m) = mkAll cnt mk k l ++ mkAll cnt mk (k + sumBulk cnt l) m
  | k, [], m => by simp [mkAll, sumBulk]
  | k, x :: l, m => by
    have e : k + (cnt x : Int) + (sumBulk cnt l : Int) = k + ((cnt x + sumBulk cnt l : Nat) : Int) := by push_cast; omega
    simp only [List.cons_append, mkAll, sumBulk, mkAll_append _ l m, e]
theorem mkAll_at : ∀ (k : Int) (l : List α) (i : Nat) (x : α), l[i]? = some x → (mkAll cnt mk k l)[i]? = some (mk (k + sumBulk cnt (l.take i)) x)
  | k, y :: l, 0, x, h => by simp only [List.getElem?_cons_zero, Option.some.injEq] at h; subst h; simp [mkAll, sumBulk]
  | k, y :: l, i + 1, x, h => by
    have e : k + (cnt y : Int) + (sumBulk cnt (l.take i) : Int) = k + ((cnt y + sumBulk cnt (l.take i) : Nat) : Int) := by push_cast; omega
    simp only [List.getElem?_cons_succ] at h
    simp only [mkAll, List.getElem?_cons_succ, List.take_succ_cons, sumBulk, mkAll_at _ l i x h, e]
/-- the first i elements are marked -/
def MkU (k : Int) (l : List α) (i : Nat) : List α := mkAll cnt mk k (l.take i) ++ l.drop i
theorem MkU.zero (k : Int) (l : List α) : MkU cnt mk k l 0 = l := by simp [MkU, mkAll]
theorem MkU.full {k : Int} {l : List α} {i n : Nat} (hl : Hid (l.length = n)) (hi : ¬ i < n) : MkU cnt mk k l i = mkAll cnt mk k l := by
  have : l.length = n := hl
  unfold MkU
  rw [List.take_of_length_le (by omega), List.drop_eq_nil_of_le (by omega), List.append_nil]
theorem MkU.at_ {k : Int} {l : List α} {i : Nat} {x : α} (hx : Hid (l[i]? = some x)) : (MkU cnt mk k l i)[i]? = some x := by
  have h : l[i]? = some x := hx
  have hi := (List.getElem?_eq_some_iff.1 h).1
  unfold MkU
  rw [List.getElem?_append_right (by simp [mkAll_len]; omega)]
  simp [mkAll_len, Nat.min_eq_left (Nat.le_of_lt hi), h]
theorem MkU.next {k : Int} {l : List α} {i : Nat} {x : α} (hx : Hid (l[i]? = some x)) : (MkU cnt mk k l i).set i (mk (k + sumBulk cnt (l.take i)) x) = MkU cnt mk k l (i + 1) := by
  have h : l[i]? = some x := hx
  obtain ⟨hi, rfl⟩ := List.getElem?_eq_some_iff.1 h
  unfold MkU
  have e : (mkAll cnt mk k (l.take i)).length = i := by simp [mkAll_len]; omega
  rw [List.set_append_right _ _ (by omega), e, Nat.sub_self, List.take_succ_eq_append_getElem hi, mkAll_append, List.append_assoc]
  congr 1
  rw [List.drop_eq_getElem_cons hi, List.set_cons_zero]
  rfl
end
theorem sum_take {α : Type} {c : α → Nat} {l : List α} {i : Nat} {x : α} (hx : Hid (l[i]? = some x)) : sumBulk c (l.take (i + 1)) = sumBulk c (l.take i) + c x := by
  have h : l[i]? = some x := hx
  obtain ⟨hi, rfl⟩ := List.getElem?_eq_some_iff.1 h
  rw [List.take_succ_eq_append_getElem hi]
  generalize l.take i = m
  generalize l[i] = x
  induction m with
  | nil => simp [sumBulk]
  | cons y m ih => simp only [List.cons_append, sumBulk, ih]; omega
theorem sum_take_le {α : Type} {c : α → Nat} : ∀ {l : List α} {i : Nat}, sumBulk c (l.take i) ≤ sumBulk c l
  | [], i => by simp [sumBulk]
  | x :: l, 0 => by simp [sumBulk]
  | x :: l, i + 1 => by have := sum_take_le (c := c) (l := l) (i := i); simp only [List.take_succ_cons, sumBulk]; omega
theorem sum_full {α : Type} {c : α → Nat} {l : List α} {i n : Nat} (hl : Hid (l.length = n)) (hi : ¬ i < n) : sumBulk c (l.take i) = sumBulk c l := by
  have : l.length = n := hl
  rw [List.take_of_length_le (by omega)]
theorem sum_mono {α : Type} {c d : α → Nat} (h : ∀ x, c x ≤ d x) : ∀ l : List α, sumBulk c l ≤ sumBulk d l
  | [] => Nat.le_refl _
  | x :: l => by have := sum_mono h l; have := h x; simp only [sumBulk]; omega
theorem sum_mul {α : Type} {c : α → Nat} (m : Nat) : ∀ l : List α, sumBulk (fun x => m * c x) l = m * sumBulk c l
  | [] => rfl
  | x :: l => by simp only [sumBulk, sum_mul m l, Nat.mul_add]
theorem sum_one {α : Type} {c : α → Nat} (h : ∀ x, 1 ≤ c x) : ∀ l : List α, l.length ≤ sumBulk c l
  | [] => Nat.le_refl _
  | x :: l => by have := sum_one h l; have := h x; simp only [sumBulk, List.length_cons]; omega
/-! ### a slice that is filled with elements that have memory of their own -/
section
variable {α : Type} {K : World → List Nat → List Value → α → Prop}
def FillK (K : World → List Nat → List Value → α → Prop) (z : List Value) (e sz : Nat) (a wr : World) (n : Nat) (l : List α) (k : Nat) : Prop :=
  ∃ dcs fss, Own wr a.heap.size e sz (some ⟨a.heap.size, 0, none⟩) n n (dcs ++ List.replicate (n - k) z) ∧ dcs.length = k ∧ Each (K wr) fss dcs (l.take k) ∧ Fresh (a.heap.size + 1) wr fss.flatten
theorem FillK.zero {z : List Value} {e sz n : Nat} {a w1 : World} {l : List α} (h : Own w1 a.heap.size e sz (some ⟨a.heap.size, 0, none⟩) n n (List.replicate n z)) : FillK K z e sz a w1 n l 0 :=
  ⟨[], [], by simpa using h, rfl, by simp [Each], Fresh.nil _ _⟩
theorem FillK.step (hK : Loc K) {z : List Value} {e sz n k : Nat} {a wr w2 : World} {l : List α} {x : α} {f : List Nat} {cs : List Value} (h : FillK K z e sz a wr n l k) (hx : Hid (l[k]? = some x)) (hk : k < n) (hb : Below wr.heap.size wr w2) (hk2 : K w2 f cs x) (hf : Fresh wr.heap.size w2 f) :
    ∃ css, Own w2 a.heap.size e sz (some ⟨a.heap.size, 0, none⟩) n n css ∧ ∀ w3, Own w3 a.heap.size e sz (some ⟨a.heap.size, 0, none⟩) n n (css.set k cs) → w2.grownBy w3 (some a.heap.size) → FillK K z e sz a w3 n l (k + 1) := by
  obtain ⟨dcs, fss, h1, h2, h3, h4⟩ := h
  have hlo : a.heap.size < wr.heap.size := (h1.lt a.heap.size rfl).2
  refine ⟨_, h1.below hb, fun w3 ho hg => ⟨dcs ++ [cs], fss ++ [f], ?_, by simp [h2], ?_, ?_⟩⟩
  · have e1 : n - k = (n - (k + 1)) + 1 := by omega
    rw [e1, List.replicate_succ, List.set_append_right _ _ (by omega), h2, Nat.sub_self, List.set_cons_zero] at ho
    simpa using ho
  · have h' : l[k]? = some x := hx
    obtain ⟨hkl, rfl⟩ := List.getElem?_eq_some_iff.1 h'
    rw [List.take_succ_eq_append_getElem hkl]
    refine ((h3.keep_ hK fun q hq => ?_).append (Each.one (hK.keep hk2 fun q hq => ?_)))
    · have := h4.hi q hq; have := h4.lo q hq
      exact (hg.block q (by have := hb.size; omega) (by simp; omega)).trans (hb.block q (h4.hi q hq))
    · have := hf.lo q hq
      exact hg.block q (hf.hi q hq) (by simp; omega)
  · rw [List.flatten_append, List.flatten_cons, List.flatten_nil, List.append_nil]
    exact (h4.then_ hf (by omega) (Nat.le_refl _) hb.size).grow hg.size
theorem FillK.full {z : List Value} {e sz n k : Nat} {a wr : World} {l : List α} (h : FillK K z e sz a wr n l k) (hl : Hid (l.length = n)) (hk : ¬ k < n) :
    ∃ fs, OwSl K wr fs e sz (some ⟨a.heap.size, 0, none⟩) n n l ∧ Fresh a.heap.size wr fs := by
  obtain ⟨dcs, fss, h1, h2, h3, h4⟩ := h
  have hl' : l.length = n := hl
  have e1 : n - k = 0 := by omega
  rw [e1, List.replicate_zero, List.append_nil] at h1
  rw [List.take_of_length_le (by omega)] at h3
  have hb := (h1.lt a.heap.size rfl).2
  refine ⟨obl (some ⟨a.heap.size, 0, none⟩) ++ fss.flatten, ⟨dcs, fss, h1.zero, h3, rfl⟩, ?_⟩
  refine Fresh.append (Fresh.obl_ h1) h4 (by omega) fun g hg => ?_
  simp [obl, ob] at hg; omega
end
/-! ### robots -/
def Robot.num (r : Robot) : Nat := 1 + r.factors.length
def Robot.bulk (r : Robot) : Nat := bulkF r.factors + r.journal.size
def Robot.cnt (r : Robot) : Nat := cntF r.factors + 1
def Robot.mk_ (k : Int) (r : Robot) : Robot := ⟨mkF k r.factors, markTxt (k + cntF r.factors)⟩
def Robot.ok (r : Robot) : Prop := okF r.factors ∧ r.journal.size ≤ maxLen
def cRobot (v : Sv) (r : Robot) : List Value := [.slice v.A v.n v.c, .string r.journal]
def RdRo (w : World) (cs : List Value) (r : Robot) : Prop := ∃ v : Sv, cs = cRobot v r ∧ RdF w v r.factors ∧ lenF v
theorem RdRo.below {w w' : World} {cs : List Value} {r : Robot} (h : RdRo w cs r) (hb : Below w.heap.size w w') : RdRo w' cs r := by
  obtain ⟨v, h1, h2, h3⟩ := h
  exact ⟨v, h1, h2.below hb, h3⟩
/-! ### channels in a list -/
def Chan.num (c : Chan) : Nat := 1 + (c.queue.length + (c.inbox.length + (c.net.length + c.acks.length)))
def Chan.cnt (c : Chan) : Nat := cntS c.queue + (2 + (cntS c.inbox + (cntK c.net + cntK c.acks)))
def Chan.mk_ (k : Int) (c : Chan) : Chan := { queue := mkS k c.queue, base := k + cntS c.queue, expected := k + cntS c.queue + 1, inbox := mkS (k + cntS c.queue + 1 + 1) c.inbox, net := mkK (k + cntS c.queue + 1 + 1 + cntS c.inbox) c.net, acks := mkK (k + cntS c.queue + 1 + 1 + cntS c.inbox + cntK c.net) c.acks }
def RdCe (w : World) (cs : List Value) (c : Chan) : Prop := ∃ v : CV, cs = cChan v c.base c.expected ∧ RdC w v c ∧ lenC v
theorem RdCe.below {w w' : World} {cs : List Value} {r : Chan} (h : RdCe w cs r) (hb : Below w.heap.size w w') : RdCe w' cs r := by
  obtain ⟨v, h1, h2, h3⟩ := h
  exact ⟨v, h1, h2.below hb, h3⟩
def okCs (l : List Chan) : Prop := ∀ c ∈ l, okC c
def numCs (l : List Chan) : Nat := 1 + sumBulk Chan.num l
def bulkCs (l : List Chan) : Nat := l.length + sumBulk bulkC l
def cntCs (l : List Chan) : Nat := sumBulk Chan.cnt l
def mkCs (k : Int) (l : List Chan) : List Chan := mkAll Chan.cnt Chan.mk_ k l
def RdCs (w : World) (cs : List Value) (l : List Chan) : Prop := ∃ v : Sv, cs = [.slice v.A v.n v.c] ∧ RdSl RdCe w v.A v.n 6 l ∧ v.n ≤ maxLen
theorem RdCs.below {w w' : World} {cs : List Value} {r : List Chan} (h : RdCs w cs r) (hb : Below w.heap.size w w') : RdCs w' cs r := by
  obtain ⟨v, h1, h2, h3⟩ := h
  exact ⟨v, h1, h2.below (R := RdCe) RdCe.below hb, h3⟩
/-! ### bundles in a list -/
def Bundle.num (b : Bundle) : Nat := 1 + b.factors.length
def Bundle.cnt (b : Bundle) : Nat := 1 + cntF b.factors
def Bundle.mk_ (k : Int) (b : Bundle) : Bundle := ⟨k, mkF (k + 1) b.factors⟩
def RdBe (w : World) (cs : List Value) (b : Bundle) : Prop := ∃ v : Sv, cs = [.int .i64 b.robot, .slice v.A v.n v.c] ∧ RdF w v b.factors ∧ lenF v
theorem RdBe.below {w w' : World} {cs : List Value} {r : Bundle} (h : RdBe w cs r) (hb : Below w.heap.size w w') : RdBe w' cs r := by
  obtain ⟨v, h1, h2, h3⟩ := h
  exact ⟨v, h1, h2.below hb, h3⟩
def KRo (w : World) (f : List Nat) (cs : List Value) (r : Robot) : Prop := ∃ v : Sv, cs = cRobot v r ∧ OwF w v r.factors ∧ f = fpF v
theorem loc_Ro : Loc KRo := ⟨fun ⟨v, h1, h2, h3⟩ hk => ⟨v, h1, h2.keep (by rw [← h3]; exact hk), h3⟩, fun ⟨v, h1, h2, h3⟩ k hk => h2.lt k (by rw [← h3]; exact hk)⟩
theorem KRo.rd {w : World} {f : List Nat} {cs : List Value} {r : Robot} (h : KRo w f cs r) : RdRo w cs r := by
  obtain ⟨v, h1, h2, _⟩ := h
  exact ⟨v, h1, h2.rd, by have := h2.own.nc; unfold lenF; omega⟩
theorem OwC.lens {w : World} {v : CV} {c : Chan} (h : OwC w v c) : lenC v := ⟨by have := h.q.nc; omega, by have := h.i.nc; omega, by have := h.n.nc; omega, by have := h.a.nc; omega⟩
def KCe (w : World) (f : List Nat) (cs : List Value) (c : Chan) : Prop := ∃ v : CV, cs = cChan v c.base c.expected ∧ OwC w v c ∧ f = fpC v
theorem loc_Ce : Loc KCe := ⟨fun ⟨v, h1, h2, h3⟩ hk => ⟨v, h1, h2.keep (by rw [← h3]; exact hk), h3⟩, fun ⟨v, h1, h2, h3⟩ k hk => h2.lt k (by rw [← h3]; exact hk)⟩
theorem KCe.rd {w : World} {f : List Nat} {cs : List Value} {r : Chan} (h : KCe w f cs r) : RdCe w cs r := by
  obtain ⟨v, h1, h2, _⟩ := h
  exact ⟨v, h1, h2.rd, h2.lens⟩
def KCs (w : World) (f : List Nat) (cs : List Value) (l : List Chan) : Prop := ∃ v : Sv, cs = [.slice v.A v.n v.c] ∧ OwSl KCe w f 29 6 v.A v.n v.c l
theorem loc_Cs : Loc KCs := ⟨fun ⟨v, h1, h2⟩ hk => ⟨v, h1, h2.keep loc_Ce hk⟩, fun ⟨v, h1, h2⟩ k hk => h2.lt loc_Ce k hk⟩
theorem OwSl.nc {α : Type} {K : World → List Nat → List Value → α → Prop} {w : World} {fs : List Nat} {e sz n c : Nat} {A : Option Addr} {l : List α} (h : OwSl K w fs e sz A n c l) : n ≤ c ∧ c ≤ maxLen := by
  obtain ⟨css, fss, h1, _⟩ := h
  exact h1.nc
theorem KCs.rd {w : World} {f : List Nat} {cs : List Value} {r : List Chan} (h : KCs w f cs r) : RdCs w cs r := by
  obtain ⟨v, h1, h2⟩ := h
  exact ⟨v, h1, h2.rd (R := RdCe) KCe.rd, by have := h2.nc; omega⟩
theorem few_Be {b : Bundle} (h : b.num ≤ 1048576) : fewB b := by unfold Bundle.num at h; unfold fewB fewF; omega
def KBe (w : World) (f : List Nat) (cs : List Value) (b : Bundle) : Prop := ∃ v : Sv, cs = [.int .i64 b.robot, .slice v.A v.n v.c] ∧ OwF w v b.factors ∧ f = fpF v
theorem loc_Be : Loc KBe := ⟨fun ⟨v, h1, h2, h3⟩ hk => ⟨v, h1, h2.keep (by rw [← h3]; exact hk), h3⟩, fun ⟨v, h1, h2, h3⟩ k hk => h2.lt k (by rw [← h3]; exact hk)⟩
theorem KBe.rd {w : World} {f : List Nat} {cs : List Value} {r : Bundle} (h : KBe w f cs r) : RdBe w cs r := by
  obtain ⟨v, h1, h2, _⟩ := h
  exact ⟨v, h1, h2.rd, by have := h2.own.nc; unfold lenF; omega⟩
theorem few_Ro {r : Robot} (h : r.num ≤ 1048576) : fewF r.factors := by unfold Robot.num at h; unfold fewF; omega
theorem few_Ce {c : Chan} (h : c.num ≤ 1048576) : fewC c := by unfold Chan.num at h; unfold fewC; omega
theorem few_Cs {l : List Chan} (h : numCs l ≤ 1048576) : sumBulk Chan.num l ≤ 1048576 := by unfold numCs at h; omega
/-! ### teams -/
structure TV where
  r : Sv
  c : Sv
  fr : List Nat
  fc : List Nat
abbrev vRobot (v : Sv) (r : Robot) : Value := .agg #[.slice v.A v.n v.c, .string r.journal]
abbrev vTeam (v : TV) : Value := .agg #[.slice v.r.A v.r.n v.r.c, .slice v.c.A v.c.n v.c.c]
structure RdT (w : World) (v : TV) (t : Team) : Prop where
  r : RdSl RdRo w v.r.A v.r.n 2 t.robots
  c : RdSl RdCs w v.c.A v.c.n 1 t.channels
structure OwT (w : World) (v : TV) (t : Team) : Prop where
  r : OwSl KRo w v.fr 170 2 v.r.A v.r.n v.r.c t.robots
  c : OwSl KCs w v.fc 153 1 v.c.A v.c.n v.c.c t.channels
def fpT (v : TV) : List Nat := v.fr ++ v.fc
theorem OwT.rd {w : World} {v : TV} {t : Team} (h : OwT w v t) : RdT w v t := ⟨h.r.rd (R := RdRo) KRo.rd, h.c.rd (R := RdCs) KCs.rd⟩
theorem RdT.below {w w' : World} {v : TV} {t : Team} (h : RdT w v t) (hb : Below w.heap.size w w') : RdT w' v t := ⟨h.r.below (R := RdRo) RdRo.below hb, h.c.below (R := RdCs) RdCs.below hb⟩
theorem OwT.lt {w : World} {v : TV} {t : Team} (h : OwT w v t) : ∀ k ∈ fpT v, k < w.heap.size := by
  intro k hk
  rcases List.mem_append.1 hk with hk | hk
  · exact h.r.lt loc_Ro k hk
  · exact h.c.lt loc_Cs k hk
theorem OwT.keep {w w' : World} {v : TV} {t : Team} (h : OwT w v t) (hw : ∀ k ∈ fpT v, w'.heap[k]? = w.heap[k]?) : OwT w' v t :=
  ⟨h.r.keep loc_Ro fun k hk => hw k (List.mem_append.2 (.inl hk)), h.c.keep loc_Cs fun k hk => hw k (List.mem_append.2 (.inr hk))⟩
theorem OwT.below {w w' : World} {v : TV} {t : Team} (h : OwT w v t) (hb : Below w.heap.size w w') : OwT w' v t := h.keep fun k hk => hb.block k (h.lt k hk)
theorem OwT.upd {w w' : World} {v : TV} {t : Team} {fs : List Nat} (h : OwT w v t) (hu : Upd fs w w') (hd : ∀ k ∈ fpT v, k ∉ fs) : OwT w' v t := h.keep fun k hk => hu.block k (h.lt k hk) (hd k hk)
def okT (t : Team) : Prop := (∀ r ∈ t.robots, r.ok) ∧ ∀ l ∈ t.channels, okCs l
def lenT (v : TV) : Prop := v.r.n ≤ maxLen ∧ v.c.n ≤ maxLen
def numT (t : Team) : Nat := sumBulk Robot.num t.robots + sumBulk numCs t.channels
def bulkT (t : Team) : Nat := (t.robots.length + sumBulk Robot.bulk t.robots) + (t.channels.length + sumBulk bulkCs t.channels)
def fewT (t : Team) : Prop := numT t ≤ 1048576
theorem num_Ro : ∀ l : List Robot, sumBulk Robot.num l ≤ l.length + sumBulk Robot.bulk l
  | [] => Nat.le_refl _
  | r :: l => by have := num_Ro l; simp only [sumBulk, Robot.num, Robot.bulk, bulkF, List.length_cons]; omega
theorem num_Ce : ∀ l : List Chan, sumBulk Chan.num l ≤ l.length + sumBulk bulkC l
  | [] => Nat.le_refl _
  | r :: l => by have := num_Ce l; simp only [sumBulk, Chan.num, bulkC, List.length_cons]; omega
theorem num_Cs : ∀ l : List (List Chan), sumBulk numCs l ≤ l.length + sumBulk bulkCs l
  | [] => Nat.le_refl _
  | r :: l => by have := num_Cs l; have := num_Ce r; simp only [sumBulk, numCs, bulkCs, List.length_cons]; omega
theorem fewT_of {t : Team} (h : bulkT t ≤ 1048576) : fewT t := by
  have := num_Ro t.robots; have := num_Cs t.channels
  unfold bulkT at h; unfold fewT numT; omega
def cntT (t : Team) : Nat := sumBulk Robot.cnt t.robots + sumBulk cntCs t.channels
def mkT (k : Int) (t : Team) : Team := ⟨mkAll Robot.cnt Robot.mk_ k t.robots, mkAll cntCs mkCs (k + sumBulk Robot.cnt t.robots) t.channels⟩
theorem cnt_Ro (l : List Robot) : sumBulk Robot.cnt l ≤ 8 * sumBulk Robot.num l := by
  rw [← sum_mul]; exact sum_mono (fun r => by simp only [Robot.cnt, Robot.num, cntF]; omega) l
theorem cnt_Ce (l : List Chan) : sumBulk Chan.cnt l ≤ 8 * sumBulk Chan.num l := by
  rw [← sum_mul]; exact sum_mono (fun r => by simp only [Chan.cnt, Chan.num, cntS, cntK]; omega) l
theorem cnt_Cs (l : List (List Chan)) : sumBulk cntCs l ≤ 8 * sumBulk numCs l := by
  rw [← sum_mul]; exact sum_mono (fun r => by have := cnt_Ce r; simp only [cntCs, numCs]; omega) l
theorem cntT_few {t : Team} (h : fewT t) : (cntT t : Int) ≤ 20000000 := by
  have := cnt_Ro t.robots; have := cnt_Cs t.channels
  unfold fewT numT at h; unfold cntT; omega
end Go.Proofs.Ytadmeijogbljhaa
