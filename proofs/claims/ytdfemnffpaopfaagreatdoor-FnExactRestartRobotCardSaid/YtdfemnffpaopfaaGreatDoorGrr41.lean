/- Texts of this proof, one behind the other: TmQ, TmS, TmR, WRestartRobot. -/
import Derived.Test.YtdfemnffpaopfaaGreatDoorGrr9
import Derived.Test.YtdfemnffpaopfaaGreatDoorGrr11
import Derived.Test.YtdfemnffpaopfaaGreatDoorGrr13
import Derived.Test.YtdfemnffpaopfaaGreatDoorGrr15
import Derived.Test.YtdfemnffpaopfaaGreatDoorGrr32
import Derived.Test.YtdfemnffpaopfaaGreatDoorGrr33
import Derived.Test.YtdfemnffpaopfaaGreatDoorGrr34
import Derived.Test.YtdfemnffpaopfaaGreatDoorGrr39
import Derived.Test.YtdfemnffpaopfaaGreatDoorGrr40
import Derived.Test.YtdfemnffpaopfaaGreatDoorGrr42
import Derived.Test.YtdfemnffpaopfaaGreatDoorGrr44
/- Moves of a team as data: an inbox is received, a move, a restart, a measurement, calm. Sizes. No program in sight. -/
namespace Go.Proofs.YtdfemnffpaopfaaGreatDoor
open Go.RowKit
set_option linter.unusedVariables false
set_option linter.unusedSimpArgs false
set_option maxRecDepth 100000
noncomputable def jadd (j : ByteArray) (f : Factor) : ByteArray := (apE j ⟨false, 0, f⟩).1
noncomputable def jadds (j : ByteArray) (A : List Factor) : ByteArray := A.foldl jadd j
noncomputable def recvR (r : Robot) (s : ByteArray) : Robot :=
  if (pb s).2 then ⟨(mergeB r.factors (pb s).1.robot (pb s).1.factors).1, jadds r.journal (mergeB r.factors (pb s).1.robot (pb s).1.factors).2⟩ else r
noncomputable def recvs (r : Robot) (l : List ByteArray) : Robot := l.foldl recvR r
def setR (t : Team) (r : Nat) (x : Robot) : Team := ⟨t.robots.set r x, t.channels⟩
def rowOf (t : Team) (i : Nat) : List Chan := (t.channels[i]?).getD []
def setC (t : Team) (i j : Nat) (c : Chan) : Team := ⟨t.robots, t.channels.set i ((rowOf t i).set j c)⟩
def robOf (t : Team) (r : Nat) : Robot := (t.robots[r]?).getD ⟨[], ByteArray.empty⟩
def chOf (t : Team) (i j : Nat) : Chan := ((rowOf t i)[j]?).getD { queue := [], base := 0, expected := 0, inbox := [], net := [], acks := [] }
noncomputable def recv (t : Team) (i j : Nat) : Team := setR (setC t i j (takeC (chOf t i j))) j (recvs (robOf t j) (chOf t i j).inbox)
def isRob (t : Team) (r : Int) : Bool := inR r 0 (t.robots.length - 1)
noncomputable def moveT (t : Team) (i j m a : Int) : Team :=
  if isTeam t && (isRob t i && (isRob t j && decide (i ≠ j))) then recv (setC t i.toNat j.toNat (stepC (chOf t i.toNat j.toNat) m a)) i.toNat j.toNat else t
noncomputable def restS (t : Team) (r : Nat) (torn : ByteArray) : ByteArray := ((robOf t r).journal ++ torn).extract 0 (rdN ((robOf t r).journal ++ torn))
noncomputable def restT (t : Team) (r : Int) (torn : ByteArray) : Team :=
  if isTeam t && isRob t r then setR t r.toNat ⟨rpl (restS t r.toNat torn), restS t r.toNat torn⟩ else t
noncomputable def calm1T (t : Team) (p : Nat × Nat) : Team := if p.1 = p.2 then t else recv (setC t p.1 p.2 (calmC (chOf t p.1 p.2))) p.1 p.2
/-! ### sizes -/
theorem apE_size (s : ByteArray) (e : Entry) : (apE s e).1.size ≤ s.size + 144 := by
  unfold apE
  split
  · rename_i h
    have := entT_size h.1 (rdQ s)
    have h2 : (s.extract 0 (rdN s)).size ≤ s.size := by rw [ByteArray.size_extract]; omega
    rw [ByteArray.size_append]; omega
  · simp
theorem jadds_size : ∀ (A : List Factor) (j : ByteArray), (jadds j A).size ≤ j.size + 144 * A.length
  | [], j => Nat.le_refl _
  | f :: A, j => by
    have h1 := jadds_size A (jadd j f)
    have h2 := apE_size j ⟨false, 0, f⟩
    unfold jadds at *
    simp only [List.foldl_cons, List.length_cons]
    unfold jadd at *
    omega
theorem merge_count : ∀ (m l a : List Factor), (m.foldl mergeStep (l, a)).1.length + a.length = l.length + (m.foldl mergeStep (l, a)).2.length
  | [], l, a => by simp
  | f :: m, l, a => by
    rw [List.foldl_cons]
    cases h : (addF l f).2 with
    | false => rw [mg_no h]; exact merge_count m l a
    | true =>
      rw [mg_yes h]
      have h1 := merge_count m (addF l f).1 (a ++ [f])
      have h2 : (addF l f).1.length = l.length + 1 := by
        unfold addF at h ⊢
        split
        · unfold insF; simp [insAt]
          have := (List.takeWhile_prefix (p := below f) (l := l)).length_le
          omega
        · rename_i hc; rw [if_neg hc] at h; cases h
      rw [List.length_append, List.length_singleton] at h1
      omega
theorem mergeB_count (l m : List Factor) (r : Int) : (mergeB l r m).1.length = l.length + (mergeB l r m).2.length := by
  unfold mergeB
  split
  · have := merge_count m l []; simpa using this
  · simp
theorem mergeB_isFL {l m : List Factor} {r : Int} (h : isFL l = true) : isFL (mergeB l r m).1 = true := by
  unfold mergeB
  split
  · exact merge_few _ _ _ h
  · exact h
/-- a robot that a team has: a valid list, a journal with room -/
def RobOk (N : Nat) (r : Robot) : Prop := isFL r.factors = true ∧ r.journal.size + 144 * (40 - r.factors.length) ≤ N
theorem RobOk.len {N : Nat} {r : Robot} (h : RobOk N r) : r.factors.length ≤ 40 := isFL_len h.1
theorem RobOk.recv {N : Nat} {r : Robot} (h : RobOk N r) (s : ByteArray) : RobOk N (recvR r s) := by
  unfold recvR
  split
  · refine ⟨mergeB_isFL h.1, ?_⟩
    have h1 := mergeB_count r.factors (pb s).1.factors (pb s).1.robot
    have h2 := isFL_len (mergeB_isFL (m := (pb s).1.factors) (r := (pb s).1.robot) h.1)
    have h3 := jadds_size (mergeB r.factors (pb s).1.robot (pb s).1.factors).2 r.journal
    have h4 := h.2
    show (jadds r.journal _).size + 144 * (40 - (mergeB r.factors (pb s).1.robot (pb s).1.factors).1.length) ≤ N
    omega
  · exact h
theorem RobOk.recvs {N : Nat} : ∀ (l : List ByteArray) {r : Robot}, RobOk N r → RobOk N (recvs r l)
  | [], _, h => h
  | s :: l, _, h => RobOk.recvs l (h.recv s)
/-! ### a team whose parts are rewritten -/
theorem sum_set {α : Type} {c : α → Nat} {k : Nat} {x : α} : ∀ {l : List α} {i : Nat}, (∀ y, l[i]? = some y → c x ≤ c y + k) → sumBulk c (l.set i x) ≤ sumBulk c l + k
  | [], i, _ => by simp [sumBulk]
  | y :: l, 0, h => by have := h y rfl; simp only [List.set_cons_zero, sumBulk]; omega
  | y :: l, i + 1, h => by
    have := sum_set (c := c) (k := k) (x := x) (l := l) (i := i) (fun z hz => h z (by simpa using hz))
    simp only [List.set_cons_succ, sumBulk]; omega
theorem rowOf_eq {t : Team} {i : Nat} {row : List Chan} (h : t.channels[i]? = some row) : rowOf t i = row := by simp [rowOf, h]
theorem robOf_eq {t : Team} {i : Nat} {r : Robot} (h : t.robots[i]? = some r) : robOf t i = r := by simp [robOf, h]
theorem numT_setR (t : Team) (r : Nat) (x : Robot) : numT (setR t r x) ≤ numT t + x.num := by
  have h := sum_set (c := Robot.num) (k := x.num) (x := x) (l := t.robots) (i := r) (fun y _ => by omega)
  unfold numT setR; simp only; omega
noncomputable def recvC (t : Team) (i j : Nat) (c : Chan) : Team := setR (setC t i j (takeC c)) j (recvs (robOf t j) c.inbox)
end Go.Proofs.YtdfemnffpaopfaaGreatDoor


/- A team that is rewritten in place: steps of its world and footprint; a robot, a channel to be written. No program in sight but the types' numbers. -/
namespace Go.Proofs.YtdfemnffpaopfaaGreatDoor
open Go.RowKit
set_option linter.unusedVariables false
set_option linter.unusedSimpArgs false
set_option maxRecDepth 100000
/-- from world w0 with the team at v0 to world w with it at v: writes in the team's own memory alone, new memory only -/
structure TStep (w0 : World) (v0 : TV) (w : World) (v : TV) : Prop where
  r : v.r = v0.r
  c : v.c = v0.c
  upd : Upd (fpT v0) w0 w
  foot : ∀ q ∈ fpT v, q ∈ fpT v0 ∨ w0.heap.size ≤ q
theorem TStep.refl (w : World) (v : TV) : TStep w v w v := ⟨rfl, rfl, Upd.refl _ _, fun _ h => .inl h⟩
theorem TStep.trans {w0 w1 w2 : World} {v0 v1 v2 : TV} (h : TStep w0 v0 w1 v1) (k : TStep w1 v1 w2 v2) : TStep w0 v0 w2 v2 :=
  ⟨k.r.trans h.r, k.c.trans h.c, h.upd.trans2 k.upd h.foot, fun q hq => by
    rcases k.foot q hq with h1 | h1
    · exact h.foot q h1
    · exact .inr (Nat.le_trans h.upd.size h1)⟩
theorem TStep.below {w0 w1 w2 : World} {v0 v1 : TV} (h : TStep w0 v0 w1 v1) (k : Below w1.heap.size w1 w2) : TStep w0 v0 w2 v1 := ⟨h.r, h.c, h.upd.then_below k, h.foot⟩
theorem List.set_getElem?_self_ {α : Type} : ∀ {l : List α} {i : Nat} {x : α}, l[i]? = some x → l.set i x = l
  | y :: l, 0, x, h => by simp at h; subst h; rfl
  | y :: l, i + 1, x, h => by simp only [List.getElem?_cons_succ] at h; rw [List.set_cons_succ, List.set_getElem?_self_ h]
/-- a write to a box of the call that is none of the team's -/
theorem TStep.pre {w0 w1 w2 : World} {v0 v1 : TV} (k : Below w0.heap.size w0 w1) (h : TStep w1 v0 w2 v1) (hf : ∀ q ∈ fpT v0, q < w0.heap.size) : TStep w0 v0 w2 v1 :=
  ⟨h.r, h.c, (Upd.of_below k).trans h.upd, fun q hq => by
    rcases h.foot q hq with h1 | h1
    · exact .inl h1
    · exact .inr (Nat.le_trans k.size h1)⟩
theorem Fresh.foot {B : Nat} {w w' : World} {fs fs' : List Nat} (h : Fresh B w fs) (hB : B ≤ w.heap.size) (hn : fs'.Nodup) (hf : ∀ q ∈ fs', q ∈ fs ∨ w.heap.size ≤ q) (hl : ∀ q ∈ fs', q < w'.heap.size) : Fresh B w' fs' :=
  ⟨hn, fun q hq => by
    rcases hf q hq with h1 | h1
    · exact h.lo q h1
    · omega, hl⟩
/-- element i of a slice of the call's own, to be written (as refocus); its memory and the slice's are the slice's footprint -/
theorem OwSl.refocus2 {α : Type} {K : World → List Nat → List Value → α → Prop} (hK : Loc K) {w : World} {fs : List Nat} {e sz n c : Nat} {A : Option Addr} {l : List α} (h : OwSl K w fs e sz A n c l) (hfr : fs.Nodup) {i : Nat} {x : α} (hx : l[i]? = some x) :
    ∃ css f cs g, Own w 0 e sz A n c css ∧ css[i]? = some cs ∧ K w f cs x ∧ A = some ⟨g, 0, none⟩ ∧ g ∉ f ∧ (∀ q ∈ g :: f, q ∈ fs) ∧ f.Nodup ∧
      (∀ w' cs' x' f', Own w' 0 e sz A n c (css.set i cs') → K w' f' cs' x' → Upd (g :: f) w w' → f'.Nodup → (∀ q ∈ f', q ∈ f ∨ w.heap.size ≤ q) → ∃ fs', OwSl K w' fs' e sz A n c (l.set i x') ∧ fs'.Nodup ∧ ∀ q ∈ fs', (q ∈ fs ∧ q ∉ f) ∨ q ∈ f') := by
  have hlt := h.lt hK
  obtain ⟨css, fss, h1, h2, rfl⟩ := h
  obtain ⟨f, cs, hf, hcs, hk⟩ := h2.at_ hx
  obtain ⟨hno, hnf, hna⟩ := List.nodup_append.1 hfr
  rcases h1.cases with ⟨_, _, _, rfl⟩ | ⟨g, rfl, _, hgl, _⟩
  · simp at hcs
  · have hgo : g ∈ obl (some ⟨g, 0, none⟩) := by simp [obl, ob]
    have hgf : g ∉ fss.flatten := fun hm => hna g hgo g hm rfl
    have hin : ∀ k ∈ f, k ∈ obl (some ⟨g, 0, none⟩) ++ fss.flatten := fun k hk => List.mem_append.2 (.inr (mem_flat hf hk))
    refine ⟨css, f, cs, g, h1, hcs, hk, rfl, fun hm => hgf (mem_flat hf hm), fun q hq => ?_, flat_nodup hnf (List.mem_of_getElem? hf), fun w' cs' x' f' ho hk' hu hd hq => ?_⟩
    · rcases List.mem_cons.1 hq with rfl | hq
      · exact List.mem_append.2 (.inl hgo)
      · exact hin q hq
    have hold : ∀ q ∈ fss.flatten, q < w.heap.size := fun q hm => hlt q (List.mem_append.2 (.inr hm))
    have hE : Each (K w') (fss.set i f') (css.set i cs') (l.set i x') := h2.putF hk' fun j f2 cs2 x2 hne h3 _ _ hk2 => by
      refine hK.keep hk2 fun k hkf => hu.block k (hK.lt hk2 k hkf) ?_
      simp only [List.mem_cons, not_or]
      exact ⟨fun e => hgf (by rw [← e]; exact mem_flat h3 hkf), flat_apart hnf h3 hf hne k hkf⟩
    have hmem : ∀ q ∈ (fss.set i f').flatten, q ∈ fss.flatten ∨ (w.heap.size ≤ q ∧ q ∈ f') := fun q hm => by
      rcases flat_set_mem hm with h | ⟨j, g2, _, hg2, hq2⟩
      · rcases hq q h with h2 | h2
        · exact .inl (mem_flat hf h2)
        · exact .inr ⟨h2, h⟩
      · exact .inl (mem_flat hg2 hq2)
    refine ⟨obl (some ⟨g, 0, none⟩) ++ (fss.set i f').flatten, ⟨css.set i cs', fss.set i f', ho, hE, rfl⟩, ?_, ?_⟩
    · refine List.nodup_append.2 ⟨hno, flat_set_nodup hnf hf hd fun q hqm => ?_, fun a ha b hb e => ?_⟩
      · rcases hq q hqm with h2 | h2
        · exact .inl h2
        · exact .inr fun hm => by have := hold q hm; omega
      · subst e
        simp [obl, ob] at ha
        subst ha
        rcases hmem a hb with h2 | h2
        · exact hgf h2
        · omega
    · intro q hm
      rcases List.mem_append.1 hm with hm | hm
      · refine .inl ⟨List.mem_append.2 (.inl hm), fun hf2 => ?_⟩
        simp [obl, ob] at hm; subst hm; exact hgf (mem_flat hf hf2)
      · rcases flat_set_mem hm with h | ⟨j, g2, hne, hg2, hq2⟩
        · exact .inr h
        · exact .inl ⟨List.mem_append.2 (.inr (mem_flat hg2 hq2)), flat_apart hnf hg2 hf hne q hq2⟩
/-- a team of the call's own, from block B on -/
structure OT (B : Nat) (w : World) (v : TV) (t : Team) : Prop where
  own : OwT w v t
  fr : Fresh B w (fpT v)
theorem OT.rd {B : Nat} {w : World} {v : TV} {t : Team} (h : OT B w v t) : RdT w v t := h.own.rd
theorem OT.below {B : Nat} {w w' : World} {v : TV} {t : Team} (h : OT B w v t) (hb : Below w.heap.size w w') : OT B w' v t := ⟨h.own.below hb, h.fr.grow hb.size⟩
theorem OT.upd {B : Nat} {w w' : World} {v : TV} {t : Team} {fs : List Nat} (h : OT B w v t) (hu : Upd fs w w') (hd : ∀ q ∈ fs, q < B ∨ w.heap.size ≤ q) : OT B w' v t :=
  ⟨h.own.upd hu (fun k hk hm => by have := h.fr.lo k hk; have := h.fr.hi k hk; rcases hd k hm with h1 | h1 <;> omega), h.fr.grow hu.size⟩
theorem OT.lt {B : Nat} {w : World} {v : TV} {t : Team} (h : OT B w v t) : ∀ q ∈ fpT v, q < w.heap.size := h.fr.hi
theorem OT.rebase {B B' : Nat} {w : World} {v : TV} {t : Team} (h : OT B w v t) (hb : B' ≤ B) : OT B' w v t := ⟨h.own, h.fr.rebase hb⟩
/-- two footprints side by side, of which the one is rewritten -/
theorem foot_two {w : World} {B : Nat} {fr fc fr' fc' : List Nat} (h : Fresh B w (fr ++ fc)) (hn : fr'.Nodup) (hm : fc'.Nodup) {nf : List Nat} (h1 : ∀ q ∈ fr', q ∈ fr ∨ (w.heap.size ≤ q ∧ q ∈ nf)) (h2 : ∀ q ∈ fc', q ∈ fc ∨ (w.heap.size ≤ q ∧ q ∈ nf)) (hx : (∀ q ∈ fr', q ∈ fr) ∨ ∀ q ∈ fc', q ∈ fc) :
    (fr' ++ fc').Nodup ∧ ∀ q ∈ fr' ++ fc', q ∈ fr ++ fc ∨ (w.heap.size ≤ q ∧ q ∈ nf) := by
  refine ⟨List.nodup_append.2 ⟨hn, hm, fun a ha b hb e => ?_⟩, fun q hq => ?_⟩
  · subst e
    rcases hx with hx | hx
    · have := h.hi a (List.mem_append.2 (.inl (hx a ha)))
      rcases h2 a hb with h3 | h3
      · exact h.apart a (hx a ha) h3
      · omega
    · have := h.hi a (List.mem_append.2 (.inr (hx a hb)))
      rcases h1 a ha with h3 | h3
      · exact h.apart a h3 (hx a hb)
      · omega
  · rcases List.mem_append.1 hq with hq | hq
    · rcases h1 q hq with h3 | h3
      · exact .inl (List.mem_append.2 (.inl h3))
      · exact .inr h3
    · rcases h2 q hq with h3 | h3
      · exact .inl (List.mem_append.2 (.inr h3))
      · exact .inr h3
/-- robot j, to be written -/
theorem OT.robot {B : Nat} {w : World} {v : TV} {t : Team} {j : Nat} {r : Robot} (h : OT B w v t) (hB : B ≤ w.heap.size) (hr : t.robots[j]? = some r) :
    ∃ (css : List (List Value)) (g : Nat) (vr : Sv), Own w 0 47 2 v.r.A v.r.n v.r.c css ∧ css[j]? = some (cRobot vr r) ∧ OwF w vr r.factors ∧ v.r.A = some ⟨g, 0, none⟩ ∧ g ∉ fpF vr ∧ (∀ q ∈ g :: fpF vr, q ∈ fpT v) ∧ (fpF vr).Nodup ∧
      ∀ w' r' vr', Own w' 0 47 2 v.r.A v.r.n v.r.c (css.set j (cRobot vr' r')) → OwF w' vr' r'.factors → Upd (g :: fpF vr) w w' → (fpF vr').Nodup → (∀ q ∈ fpF vr', q ∈ fpF vr ∨ w.heap.size ≤ q) →
        ∃ v', OT B w' v' (setR t j r') ∧ TStep w v w' v' ∧ ∀ q ∈ fpT v', (q ∈ fpT v ∧ q ∉ fpF vr) ∨ q ∈ fpF vr' := by
  have hfr : Fresh B w v.fr := Fresh.left (gs := v.fc) h.fr
  have hap : ∀ k ∈ v.fr, k ∉ v.fc := Fresh.apart h.fr
  obtain ⟨css, f, cs, g, h1, h2, ⟨vr, rfl, h3, rfl⟩, h4, h5, h6, h7, h8⟩ := h.own.r.refocus2 loc_Ro hfr.nodup hr
  refine ⟨css, g, vr, h1, h2, h3, h4, h5, fun q hq => List.mem_append.2 (.inl (h6 q hq)), h7, fun w' r' vr' ho hk hu hn hq => ?_⟩
  obtain ⟨fs', k1, k2, k3⟩ := h8 w' _ r' _ ho ⟨vr', rfl, hk, rfl⟩ hu hn hq
  have hc := h.own.c.upd loc_Cs hu fun k hk hm => hap k (h6 k hm) hk
  have hw : OwT w' ⟨v.r, v.c, fs', v.fc⟩ (setR t j r') := ⟨k1, hc⟩
  have k4 : ∀ q ∈ fs', q ∈ v.fr ∨ (w.heap.size ≤ q ∧ q ∈ fpF vr') := fun q hm => by
    rcases k3 q hm with h9 | h9
    · exact .inl h9.1
    · rcases hq q h9 with h10 | h10
      · exact .inl (h6 q (List.mem_cons_of_mem _ h10))
      · exact .inr ⟨h10, h9⟩
  obtain ⟨f1, f2⟩ := foot_two h.fr k2 (Fresh.right h.fr).nodup k4 (fun q hq => .inl hq) (.inr fun q hq => hq)
  have f3 := fun q hq => (f2 q hq).imp id And.left
  exact ⟨⟨v.r, v.c, fs', v.fc⟩, ⟨hw, h.fr.foot hB f1 f3 hw.lt⟩, ⟨rfl, rfl, hu.mono (fun q hq => List.mem_append.2 (.inl (h6 q hq))), f3⟩, fun q hm => by
    rcases List.mem_append.1 hm with hm | hm
    · exact (k3 q hm).imp (fun h9 => ⟨List.mem_append.2 (.inl h9.1), h9.2⟩) id
    · exact .inl ⟨List.mem_append.2 (.inr hm), fun h9 => hap q (h6 q (List.mem_cons_of_mem _ h9)) hm⟩⟩
/-- the channel from i to j, to be written -/
theorem OT.chan {B : Nat} {w : World} {v : TV} {t : Team} {i j : Nat} {row : List Chan} {c : Chan} (h : OT B w v t) (hB : B ≤ w.heap.size) (hi : t.channels[i]? = some row) (hj : row[j]? = some c) :
    ∃ (cst : List (List Value)) (gt : Nat) (vs : Sv) (css : List (List Value)) (g : Nat) (vc : CV), Own w 0 71 1 v.c.A v.c.n v.c.c cst ∧ cst[i]? = some [.slice (some ⟨g, 0, none⟩) vs.n vs.c] ∧ v.c.A = some ⟨gt, 0, none⟩ ∧ vs.A = some ⟨g, 0, none⟩ ∧ row.length = vs.n ∧
      Own w 0 84 6 vs.A vs.n vs.c css ∧ css[j]? = some (cChan vc c.base c.expected) ∧ OwC w vc c ∧ g ∉ fpC vc ∧ gt ≠ g ∧ gt ∉ fpC vc ∧ (∀ q ∈ gt :: g :: fpC vc, q ∈ fpT v) ∧ (fpC vc).Nodup ∧
      ∀ w' c' vc', Own w' 0 84 6 vs.A vs.n vs.c (css.set j (cChan vc' c'.base c'.expected)) → OwC w' vc' c' → Upd (g :: fpC vc) w w' → (fpC vc').Nodup → (∀ q ∈ fpC vc', q ∈ fpC vc ∨ w.heap.size ≤ q) →
        ∃ v', OT B w' v' (setC t i j c') ∧ TStep w v w' v' ∧ ∀ q ∈ fpT v', q ∈ fpT v ∨ q ∈ fpC vc' := by
  have hfc : Fresh B w v.fc := Fresh.right h.fr
  have hap : ∀ k ∈ v.fr, k ∉ v.fc := Fresh.apart h.fr
  obtain ⟨cst, ft, cs, gt, h1, h2, ⟨vs, rfl, h3⟩, h4, h5, h6, h7, h8⟩ := h.own.c.refocus2 loc_Cs hfc.nodup hi
  have hl := h3.len.out
  obtain ⟨css, f, cs2, g, k1, k2, ⟨vc, rfl, k3, rfl⟩, k4, k5, k6, k7, k8⟩ := h3.refocus2 loc_Ce h7 hj
  have e1 : g ∈ ft := k6 g List.mem_cons_self
  have hall : ∀ q ∈ gt :: g :: fpC vc, q ∈ v.fc := fun q hq => by
    rcases List.mem_cons.1 hq with rfl | hq
    · exact h6 _ List.mem_cons_self
    · exact h6 _ (List.mem_cons_of_mem _ (k6 q hq))
  refine ⟨cst, gt, vs, css, g, vc, h1, by rw [h2, k4], h4, k4, hl, k1, k2, k3, k5, fun e => h5 (e ▸ e1), fun hm => h5 (k6 gt (List.mem_cons_of_mem _ hm)), fun q hq => List.mem_append.2 (.inr (hall q hq)), k7, fun w' c' vc' ho hk hu hn hq => ?_⟩
  obtain ⟨fs', m1, m2, m3⟩ := k8 w' _ c' _ ho ⟨vc', rfl, hk, rfl⟩ hu hn hq
  have hu2 : Upd (gt :: ft) w w' := hu.mono fun q hq => List.mem_cons_of_mem _ (k6 q hq)
  have hcst : Own w' 0 71 1 v.c.A v.c.n v.c.c cst := h1.upd hu fun q hq hm => by
    rw [h4] at hq; simp [obl, ob] at hq; subst hq; exact h5 (k6 q hm)
  have m5 : ∀ q ∈ fs', q ∈ ft ∨ w.heap.size ≤ q := fun q hm => by
    rcases m3 q hm with h9 | h9
    · exact .inl h9.1
    · rcases hq q h9 with h10 | h10
      · exact .inl (k6 q (List.mem_cons_of_mem _ h10))
      · exact .inr h10
  obtain ⟨fs2, n1, n2, n3⟩ := h8 w' [.slice vs.A vs.n vs.c] (row.set j c') fs' (by rw [List.set_getElem?_self_ h2]; exact hcst) ⟨vs, rfl, m1⟩ hu2 m2 (fun q hm => m5 q hm)
  have n4 : ∀ q ∈ fs2, q ∈ v.fc ∨ (w.heap.size ≤ q ∧ q ∈ fpC vc') := fun q hq => by
    rcases n3 q hq with h1 | h1
    · exact .inl h1.1
    · rcases m3 q h1 with h2 | h2
      · exact .inl (h6 q (List.mem_cons_of_mem _ h2.1))
      · rcases m5 q h1 with h3 | h3
        · exact .inl (h6 q (List.mem_cons_of_mem _ h3))
        · exact .inr ⟨h3, h2⟩
  have hc := h.own.r.upd loc_Ro hu fun k hk hm => hap k hk (hall k (List.mem_cons_of_mem _ hm))
  have hw : OwT w' ⟨v.r, v.c, v.fr, fs2⟩ (setC t i j c') := ⟨hc, by unfold setC; rw [rowOf_eq hi]; exact n1⟩
  obtain ⟨f1, f2⟩ := foot_two h.fr (Fresh.left h.fr).nodup n2 (fun q hq => .inl hq) n4 (.inl fun q hq => hq)
  have f3 := fun q hq => (f2 q hq).imp id And.left
  exact ⟨⟨v.r, v.c, v.fr, fs2⟩, ⟨hw, h.fr.foot hB f1 f3 hw.lt⟩, ⟨rfl, rfl, hu.mono (fun q hq => List.mem_append.2 (.inr (hall q (List.mem_cons_of_mem _ hq)))), f3⟩, fun q hq => (f2 q hq).imp id And.right⟩
theorem Own.put_ {B e sz n c g k j : Nat} {w : World} {css : List (List Value)} {cs : List Value} (hown : Own w B e sz (some ⟨g, 0, none⟩) n c css) (hk : css[k]? = some cs) (hj : j < sz) (u : Value) {o : Nat} (ho : o = k * sz + j) :
    Own (w.setCell ⟨g, o, none⟩ u) B e sz (some ⟨g, 0, none⟩) n c (css.set k (cs.set j u)) ∧ (css.set k (cs.set j u))[k]? = some (cs.set j u) := by
  subst ho
  refine ⟨(hown.cell hk hj u).1, ?_⟩
  rw [List.getElem?_set_self (List.getElem?_eq_some_iff.1 hk).1]
theorem set2_ {α : Type} (l : List α) (k : Nat) (x y : α) : (l.set k x).set k y = l.set k y := by rw [List.set_set]
/-- robot j, to be read and written -/
theorem OT.rob {B : Nat} {w : World} {v : TV} {t : Team} {j : Nat} {r : Robot} (h : OT B w v t) (hB : B ≤ w.heap.size) (hr : t.robots[j]? = some r) :
    ∃ (g : Nat) (vr : Sv), v.r.A = some ⟨g, 0, none⟩ ∧ w.cell? ⟨g, j * 2, none⟩ = some (.slice vr.A vr.n vr.c) ∧ w.cell? ⟨g, j * 2 + 1, none⟩ = some (.string r.journal) ∧ (∀ o, w.frozen? ⟨g, o, none⟩ = false) ∧ OwF w vr r.factors ∧ g < w.heap.size ∧ B ≤ g ∧ g ∈ fpT v ∧ (∀ q ∈ fpF vr, q < w.heap.size) ∧
      (∀ w1, Below w.heap.size w w1 → ∀ (vr' : Sv) (fs' : List Factor), OwF w1 vr' fs' → Fresh w.heap.size w1 (fpF vr') → ∀ s : ByteArray,
        ∃ v', OT B ((w1.setCell ⟨g, j * 2, none⟩ (.slice vr'.A vr'.n vr'.c)).setCell ⟨g, j * 2 + 1, none⟩ (.string s)) v' (setR t j ⟨fs', s⟩) ∧ TStep w v ((w1.setCell ⟨g, j * 2, none⟩ (.slice vr'.A vr'.n vr'.c)).setCell ⟨g, j * 2 + 1, none⟩ (.string s)) v' ∧ ∀ q ∈ fpT v', (q ∈ fpT v ∧ q ∉ fpF vr) ∨ q ∈ fpF vr') ∧
      (∀ w1, Below w.heap.size w w1 → ∀ (vr' : Sv) (fs' : List Factor), OwF w1 vr' fs' → Fresh w.heap.size w1 (fpF vr') →
        ∃ v', OT B (w1.setCell ⟨g, j * 2, none⟩ (.slice vr'.A vr'.n vr'.c)) v' (setR t j ⟨fs', r.journal⟩) ∧ TStep w v (w1.setCell ⟨g, j * 2, none⟩ (.slice vr'.A vr'.n vr'.c)) v' ∧ ∀ q ∈ fpT v', (q ∈ fpT v ∧ q ∉ fpF vr) ∨ q ∈ fpF vr') ∧
      (∀ w1, Below w.heap.size w w1 → ∀ s : ByteArray,
        ∃ v', OT B (w1.setCell ⟨g, j * 2 + 1, none⟩ (.string s)) v' (setR t j ⟨r.factors, s⟩) ∧ TStep w v (w1.setCell ⟨g, j * 2 + 1, none⟩ (.string s)) v' ∧ ∀ q ∈ fpT v', q ∈ fpT v) := by
  obtain ⟨css, g, vr, h1, h2, h3, h4, h5, h6, h7, h8⟩ := h.robot hB hr
  rw [h4] at h1 h8
  have hgl := h.lt g (h6 g List.mem_cons_self)
  have hglo := h.fr.lo g (h6 g List.mem_cons_self)
  have new_g : ∀ {fs : List Nat} {w1 : World}, Fresh w.heap.size w1 fs → ∀ q ∈ fs, q ∉ [g] := fun hf q hq hm => by
    have := hf.lo q hq; simp at hm; omega
  refine ⟨g, vr, h4, ?_, ?_, h1.frozen rfl, h3, hgl, hglo, h6 g List.mem_cons_self, fun q hq => h.lt q (h6 q (List.mem_cons_of_mem _ hq)), ?_, ?_, ?_⟩
  · exact by simpa using own_cells h1 h2 0 _ rfl
  · exact own_cells h1 h2 1 _ rfl
  · intro w1 hb vr' fs' ho hf s
    obtain ⟨k1, k2⟩ := (h1.below hb).put_ (j := 0) h2 (by omega) (.slice vr'.A vr'.n vr'.c) (o := j * 2) (by omega)
    obtain ⟨m1, m2⟩ := k1.put_ (j := 1) k2 (by omega) (.string s) (o := j * 2 + 1) (by omega)
    rw [set2_] at m1
    have hu : Upd [g] w1 ((w1.setCell ⟨g, j * 2, none⟩ (.slice vr'.A vr'.n vr'.c)).setCell ⟨g, j * 2 + 1, none⟩ (.string s)) := ((Upd.refl _ _).set_in (by simp) _).set_in (by simp) _
    exact h8 _ ⟨fs', s⟩ vr' m1 (ho.upd hu (new_g hf)) ((Upd.of_below hb).trans (hu.mono (fun q hq => by simp at hq; subst hq; exact List.mem_cons_self))) hf.nodup (fun q hq => .inr (hf.lo q hq))
  · intro w1 hb vr' fs' ho hf
    obtain ⟨k1, k2⟩ := (h1.below hb).put_ (j := 0) h2 (by omega) (.slice vr'.A vr'.n vr'.c) (o := j * 2) (by omega)
    have hu : Upd [g] w1 (w1.setCell ⟨g, j * 2, none⟩ (.slice vr'.A vr'.n vr'.c)) := (Upd.refl _ _).set_in (by simp) _
    exact h8 _ ⟨fs', r.journal⟩ vr' k1 (ho.upd hu (new_g hf)) ((Upd.of_below hb).trans (hu.mono (fun q hq => by simp at hq; subst hq; exact List.mem_cons_self))) hf.nodup (fun q hq => .inr (hf.lo q hq))
  · intro w1 hb s
    obtain ⟨k1, k2⟩ := (h1.below hb).put_ (j := 1) h2 (by omega) (.string s) (o := j * 2 + 1) (by omega)
    have hu : Upd [g] w1 (w1.setCell ⟨g, j * 2 + 1, none⟩ (.string s)) := (Upd.refl _ _).set_in (by simp) _
    obtain ⟨v', x1, x2, x3⟩ := h8 _ ⟨r.factors, s⟩ vr k1 ((h3.below hb).upd hu (fun q hq hm => by simp at hm; subst hm; exact h5 hq)) ((Upd.of_below hb).trans (hu.mono (fun q hq => by simp at hq; subst hq; exact List.mem_cons_self))) h7 (fun q hq => .inl hq)
    exact ⟨v', x1, x2, fun q hq => (x3 q hq).elim And.left fun h9 => h6 q (List.mem_cons_of_mem _ h9)⟩
/-- a channel's six cells, written -/
def setChan (w : World) (g j : Nat) (v : CV) (c : Chan) : World :=
  (((((w.setCell ⟨g, j * 6, none⟩ (.slice v.q.A v.q.n v.q.c)).setCell ⟨g, j * 6 + 1, none⟩ (.int .i64 c.base)).setCell ⟨g, j * 6 + 2, none⟩ (.int .i64 c.expected)).setCell ⟨g, j * 6 + 3, none⟩ (.slice v.i.A v.i.n v.i.c)).setCell ⟨g, j * 6 + 4, none⟩ (.slice v.n.A v.n.n v.n.c)).setCell ⟨g, j * 6 + 5, none⟩ (.slice v.a.A v.a.n v.a.c)
theorem setChan_upd (w : World) (g j : Nat) (v : CV) (c : Chan) : Upd [g] w (setChan w g j v c) :=
  ((((((Upd.refl _ _).set_in (by simp) _).set_in (by simp) _).set_in (by simp) _).set_in (by simp) _).set_in (by simp) _).set_in (by simp) _
/-- the channel from i to j, to be read and written -/
theorem OT.ch {B : Nat} {w : World} {v : TV} {t : Team} {i j : Nat} {row : List Chan} {c : Chan} (h : OT B w v t) (hB : B ≤ w.heap.size) (hi : t.channels[i]? = some row) (hj : row[j]? = some c) :
    ∃ (gt g : Nat) (vs : Sv) (vc : CV), v.c.A = some ⟨gt, 0, none⟩ ∧ w.cell? ⟨gt, i, none⟩ = some (.slice (some ⟨g, 0, none⟩) vs.n vs.c) ∧ row.length = vs.n ∧
      (w.cell? ⟨g, j * 6, none⟩ = some (.slice vc.q.A vc.q.n vc.q.c) ∧ w.cell? ⟨g, j * 6 + 1, none⟩ = some (.int .i64 c.base) ∧ w.cell? ⟨g, j * 6 + 2, none⟩ = some (.int .i64 c.expected) ∧ w.cell? ⟨g, j * 6 + 3, none⟩ = some (.slice vc.i.A vc.i.n vc.i.c) ∧ w.cell? ⟨g, j * 6 + 4, none⟩ = some (.slice vc.n.A vc.n.n vc.n.c) ∧ w.cell? ⟨g, j * 6 + 5, none⟩ = some (.slice vc.a.A vc.a.n vc.a.c)) ∧
      (∀ o, w.frozen? ⟨g, o, none⟩ = false) ∧ RdC w vc c ∧ lenC vc ∧ g < w.heap.size ∧ gt < w.heap.size ∧ B ≤ g ∧ B ≤ gt ∧ gt ≠ g ∧
      ∀ w1, Below w.heap.size w w1 → ∀ (vc' : CV) (c' : Chan), OwC w1 vc' c' → Fresh w.heap.size w1 (fpC vc') → ∃ v', OT B (setChan w1 g j vc' c') v' (setC t i j c') ∧ TStep w v (setChan w1 g j vc' c') v' ∧ ∀ q ∈ fpT v', q ∈ fpT v ∨ q ∈ fpC vc' := by
  obtain ⟨cst, gt, vs, css, g, vc, h1, h2, h3, h4, h5, k1, k2, k3, k4, k5, k6, k7, k8, k9⟩ := h.chan hB hi hj
  rw [h4] at k1 k9
  rw [h3] at h1
  have hgm : g ∈ fpT v := k7 g (List.mem_cons_of_mem _ List.mem_cons_self)
  have hgt : gt ∈ fpT v := k7 gt List.mem_cons_self
  refine ⟨gt, g, vs, vc, h3, by simpa using own_cells h1 h2 0 _ rfl, h5, ⟨by simpa using own_cells k1 k2 0 _ rfl, own_cells k1 k2 1 _ rfl, own_cells k1 k2 2 _ rfl, own_cells k1 k2 3 _ rfl, own_cells k1 k2 4 _ rfl, own_cells k1 k2 5 _ rfl⟩, k1.frozen rfl, k3.rd, k3.lens, h.lt g hgm, h.lt gt hgt, h.fr.lo g hgm, h.fr.lo gt hgt, k5, fun w1 hb vc' c' ho hf => ?_⟩
  obtain ⟨a1, b1⟩ := (k1.below hb).put_ (j := 0) k2 (by omega) (.slice vc'.q.A vc'.q.n vc'.q.c) (o := j * 6) (by omega)
  obtain ⟨a2, b2⟩ := a1.put_ (j := 1) b1 (by omega) (.int .i64 c'.base) (o := j * 6 + 1) (by omega)
  obtain ⟨a3, b3⟩ := a2.put_ (j := 2) b2 (by omega) (.int .i64 c'.expected) (o := j * 6 + 2) (by omega)
  obtain ⟨a4, b4⟩ := a3.put_ (j := 3) b3 (by omega) (.slice vc'.i.A vc'.i.n vc'.i.c) (o := j * 6 + 3) (by omega)
  obtain ⟨a5, b5⟩ := a4.put_ (j := 4) b4 (by omega) (.slice vc'.n.A vc'.n.n vc'.n.c) (o := j * 6 + 4) (by omega)
  obtain ⟨a6, b6⟩ := a5.put_ (j := 5) b5 (by omega) (.slice vc'.a.A vc'.a.n vc'.a.c) (o := j * 6 + 5) (by omega)
  rw [set2_, set2_, set2_, set2_, set2_] at a6
  have hu := setChan_upd w1 g j vc' c'
  exact k9 _ c' vc' a6 (ho.upd hu (fun q hq hm => by have := hf.lo q hq; have := h.lt g hgm; simp at hm; omega)) ((Upd.of_below hb).trans (hu.mono (fun q hq => by simp at hq; subst hq; exact List.mem_cons_self))) hf.nodup (fun q hq => .inr (hf.lo q hq))
end Go.Proofs.YtdfemnffpaopfaaGreatDoor


/- isRobot, l30Robot, RestartRobot: what the two of each answer. -/
namespace Go.Proofs.YtdfemnffpaopfaaGreatDoor
open Go.RowKit
set_option linter.unusedVariables false
set_option linter.unusedSimpArgs false
set_option maxHeartbeats 1600000
set_option maxRecDepth 100000
theorem jrn_size {t : Team} {r : Robot} {N : Nat} (h : bulkT t ≤ N) (hr : r ∈ t.robots) : r.journal.size ≤ N := by
  have h1 : r.bulk ≤ sumBulk Robot.bulk t.robots := few_each hr
  have h2 : r.bulk = bulkF r.factors + r.journal.size := rfl
  unfold bulkT at h; omega
theorem isRob_iff {t : Team} {r : Int} : isRob t r = true ↔ 0 ≤ r ∧ r < t.robots.length := by
  unfold isRob; rw [inR_iff]; omega
/-- the team is handed back in the result's box -/
theorem teamEnd_ {w w1 : World} {v : TV} {t : Team} (hB : Below w.heap.size w w1) (h : OT (w.heap.size + 2) w1 v t) (x y : Value) :
    OwT ((w1.setCell ⟨w.heap.size + 1, 0, none⟩ x).setCell ⟨w.heap.size + 1, 1, none⟩ y) v t ∧ Fresh w.heap.size ((w1.setCell ⟨w.heap.size + 1, 0, none⟩ x).setCell ⟨w.heap.size + 1, 1, none⟩ y) (fpT v) ∧
      Below w.heap.size w ((w1.setCell ⟨w.heap.size + 1, 0, none⟩ x).setCell ⟨w.heap.size + 1, 1, none⟩ y) := by
  have uS : Upd [w.heap.size + 1] w1 ((w1.setCell ⟨w.heap.size + 1, 0, none⟩ x).setCell ⟨w.heap.size + 1, 1, none⟩ y) := ((Upd.refl _ _).set_in (by simp) _).set_in (by simp) _
  have h2 := h.upd uS (fun q hq => by simp at hq; omega)
  exact ⟨h2.own, h2.fr.rebase (by omega), bUpd hB uS (fun q hq => by simp at hq; omega)⟩
theorem rpl_num (s u : ByteArray) : Robot.num ⟨rpl s, u⟩ ≤ 41 := by
  have h : (rpl s).length ≤ 40 := (rpok_fold _ _ RpOk.nil : RpOk (rpl s)).2
  unfold Robot.num; simp only; omega
theorem fewT_rest {t : Team} (hm : bulkT t ≤ 1048576) (r : Int) (s : ByteArray) : fewT (restT t r s) := by
  have h1 : numT t ≤ bulkT t := by
    have := num_Ro t.robots; have := num_Cs t.channels
    unfold bulkT numT; omega
  unfold restT
  split
  · have h2 := numT_setR t r.toNat ⟨rpl (restS t r.toNat s), restS t r.toNat s⟩
    have h3 := rpl_num (restS t r.toNat s) (restS t r.toNat s)
    unfold fewT; omega
  · unfold fewT; omega
theorem setR_setR (t : Team) (j : Nat) (a b : Robot) : setR (setR t j a) j b = setR t j b := by unfold setR; simp only [List.set_set]
theorem restT_no {t : Team} {r : Int} {s : ByteArray} (h : isTeam t = false ∨ isRob t r = false) : restT t r s = t := by
  unfold restT
  rcases h with h | h <;> simp [h]
theorem restT_yes {t : Team} {j : Nat} {x : Robot} {s u : ByteArray} (h : isTeam t = true) (h2 : isRob t j = true) (hx : t.robots[j]? = some x) (hu : x.journal ++ s = u) :
    restT t j s = setR t j ⟨rpl (u.extract 0 (rdN u)), u.extract 0 (rdN u)⟩ := by
  unfold restT restS
  rw [Int.toNat_natCast, robOf_eq hx, hu]
  simp [h, h2]
theorem impl_isRobot_c (v : TV) (t : Team) (r : Int) (w : World) (hl : t.robots.length = v.r.n) (hn : v.r.n ≤ 4194304) :
    Calls Tryz.prog 34 #[vTeam v, .int .i64 r] w fun e w' => e = rBool (isRob t r) ∧ Below w.heap.size w w' := by
  obtain ⟨⟨Ar, nr, cr⟩, ⟨Ac, nc, cc⟩, fr, fc⟩ := v
  dsimp only at hl hn
  by_cases h0 : 0 ≤ r
  · by_cases h1 : r < (nr : Int)
    · have hb : isRob t r = true := isRob_iff.2 (by omega)
      go_enter Tryz.func34, Tryz.ntmps34
      go_wp2_with fail
      go_ret
      exact ⟨by first | rfl | (rw [hb]; rfl), bAlloc (Below.refl _ _) _⟩
    · have hb : isRob t r = false := by rw [Bool.eq_false_iff]; intro h; have := isRob_iff.1 h; omega
      go_enter Tryz.func34, Tryz.ntmps34
      go_wp2_with fail
      go_ret
      exact ⟨by first | rfl | (rw [hb]; rfl), bAlloc (Below.refl _ _) _⟩
  · have hb : isRob t r = false := by rw [Bool.eq_false_iff]; intro h; have := isRob_iff.1 h; omega
    have h1 : ¬ r ≥ 0 := by omega
    go_enter Tryz.func34, Tryz.ntmps34
    go_wp2_with fail
    go_ret
    exact ⟨by first | rfl | (rw [hb]; rfl), bAlloc (Below.refl _ _) _⟩
theorem spec_l30Robot_c (v : TV) (t : Team) (r : Int) (w : World) (hl : t.robots.length = v.r.n) (hn : v.r.n ≤ 4194304) :
    Calls Tryz.prog 57 #[vTeam v, .int .i64 r] w fun e w' => e = rBool (isRob t r) ∧ Below w.heap.size w w' := by
  obtain ⟨⟨Ar, nr, cr⟩, ⟨Ac, nc, cc⟩, fr, fc⟩ := v
  dsimp only at hl hn
  have hw : IntKind.i64.wrap ((nr : Int) - 1) = (nr : Int) - 1 := by
    rcases Nat.eq_zero_or_pos nr with h | h
    · subst h; rfl
    · exact wrap_small _ (by omega) (by omega)
  go_enter Tryz.func57, Tryz.ntmps57
  go_wp2_with fail
  refine Calls.mono (l01In_c _ _ _ _) ?_
  rintro e w2 ⟨rfl, rfl⟩
  go_wp2_with fail
  go_ret
  exact ⟨by unfold isRob; rw [hl]; rfl, bAlloc (Below.refl _ _) _⟩
theorem impl_RestartRobot_k (v : TV) (t : Team) (r : Int) (torn : ByteArray) (w : World) (hm : bulkT t ≤ 1048576) (hok : okT t) (hr : RdT w v t) (hwf : (Lit.int .i64 r).wf = true) (ht : torn.size ≤ 1048576) (hT : TabJ w) :
    Calls Tryz.prog 16 #[vTeam v, .int .i64 r, .string torn] w fun e w' => ∃ v', e = .returned (vTeam v') ∧ OwT w' v' (restT t r torn) ∧ Fresh w.heap.size w' (fpT v') ∧ Below w.heap.size w w' := by
  have FT := Lib.hid (fewT_of (Nat.le_trans hm (show 1048576 ≤ 4194304 by decide)))
  have HM := Lib.hid (Nat.le_trans hm (show 1048576 ≤ 4194304 by decide))
  have HJ := Lib.hid (fun (x : Robot) (h : x ∈ t.robots) => jrn_size hm h)
  have HK := Lib.hid hok
  have HR := Lib.hid hr
  have HL : Hid (t.robots.length = v.r.n) := hr.r.len
  have HN : Hid (v.r.n ≤ 4194304) := by have h1 := fewT_len FT.out; have := HL.out; rw [Hid]; omega
  have HTS := Lib.hid ht
  have HTb := Lib.hid hT
  clear hT
  obtain ⟨⟨Ar, nr, cr⟩, ⟨Ac, nc, cc⟩, fr, fc⟩ := v
  generalize hbt : isTeam t = bt
  generalize hbr : isRob t r = br
  have HB := Lib.hid hbt
  have HI := Lib.hid hbr
  clear hbt hbr hm hok hr hwf ht
  go_enter Tryz.func16, Tryz.ntmps16
  go_wp2_with fail
  refine Calls.mono (impl_copyTeam_k ⟨⟨Ar, nr, cr⟩, ⟨Ac, nc, cc⟩, fr, fc⟩ t _ FT.out ?_) ?_
  · exact HR.out.below (bAlloc (bAlloc (Below.refl _ _) _) _)
  rintro e w1 ⟨v1, rfl, ho1, hf1, hb1⟩
  have B := bTrans (bAlloc (bAlloc (Below.refl w.heap.size w) _) _) hb1
  have X0 : Bx2 w1 w.heap.size (.slice Ar nr cr) (.slice Ac nc cc) := Bx2.below ⟨by go_simp, by go_simp, fun o => by go_simp⟩ hb1
  have X1 : Bx2 w1 (w.heap.size + 1) (.slice none 0 0) (.slice none 0 0) := Bx2.below ⟨by go_simp, by go_simp, fun o => by go_simp⟩ hb1
  have O : OT (w.heap.size + 2) w1 v1 t := ⟨ho1, hf1.rebase (by simp)⟩
  have a0 := X0.c0; have a1 := X0.c1; have a2 := X0.lt; have b0 := X1.c0; have b1 := X1.c1; have b2 := X1.fz; have b3 := X1.lt
  have hv1 : v1.r.n = nr := by have h1 := O.own.r.len.out; have h2 := HL.out; (try dsimp only at h2); omega
  have hlt1 := O.lt
  clear ho1 hf1
  go_wp2_with fail
  refine Calls.mono (impl_IsTeam_k ⟨⟨Ar, nr, cr⟩, ⟨Ac, nc, cc⟩, fr, fc⟩ t _ HM.out HK.out ?_) ?_
  · exact HR.out.below (bAlloc B _)
  rintro e w2 ⟨he, hb2⟩
  rw [HB.out] at he
  subst he
  have X2 : Bx2 w2 w1.heap.size (.slice v1.r.A v1.r.n v1.r.c) (.slice v1.c.A v1.c.n v1.c.c) := Bx2.below ⟨by go_simp, by go_simp, fun o => by go_simp⟩ hb2
  have hbb2 : Below w1.heap.size w1 w2 := bTrans (bAlloc (Below.refl _ _) _) hb2
  have X0 := X0.below hbb2
  have X1 := X1.below hbb2
  have O := O.below hbb2
  have B := bTrans B hbb2
  clear a0 a1 a2 b0 b1 b2 b3
  have a0 := X0.c0; have a1 := X0.c1; have a2 := X0.lt; have b0 := X1.c0; have b1 := X1.c1; have b2 := X1.fz; have b3 := X1.lt; have c0 := X2.c0; have c1 := X2.c1; have c3 := X2.lt
  cases bt
  · have HF := Lib.hid (restT_no (r := r) (s := torn) (.inl HB.out))
    go_wp2_with fail
    refine bodyPost_ret (v := vTeam v1) (by simp [*, results, Tryz.results16, go_sem]) rfl ?_
    rw [HF.out]
    exact ⟨v1, rfl, teamEnd_ B O _ _⟩
  go_wp2_with fail
  refine Calls.mono (impl_isRobot_c ⟨⟨Ar, nr, cr⟩, ⟨Ac, nc, cc⟩, fr, fc⟩ t r _ HL.out HN.out) ?_
  rintro e w3 ⟨he, hb3⟩
  rw [HI.out] at he
  subst he
  have X0 := X0.below hb3
  have X1 := X1.below hb3
  have X2 := X2.below hb3
  have O := O.below hb3
  have hbb3 := bTrans hbb2 hb3
  have B := bTrans B hb3
  clear a0 a1 a2 b0 b1 b2 b3 c0 c1 c3
  have a0 := X0.c0; have a1 := X0.c1; have a2 := X0.lt; have b0 := X1.c0; have b1 := X1.c1; have b2 := X1.fz; have b3 := X1.lt; have c0 := X2.c0; have c1 := X2.c1; have c3 := X2.lt
  cases br
  · have HF := Lib.hid (restT_no (r := r) (s := torn) (.inr HI.out))
    go_wp2_with fail
    refine bodyPost_ret (v := vTeam v1) (by simp [*, results, Tryz.results16, go_sem]) rfl ?_
    rw [HF.out]
    exact ⟨v1, rfl, teamEnd_ B O _ _⟩
  have hin := isRob_iff.1 HI.out
  obtain ⟨j, rfl⟩ : ∃ j : Nat, r = j := ⟨r.toNat, by omega⟩
  have hj : j < nr := by have := HL.out; (try dsimp only at this); omega
  have z0 : (0 : Int) ≤ (j : Int) := by omega
  have z1 : (j : Int) < (nr : Int) := by omega
  have z2 : (j : Int) < (v1.r.n : Int) := by omega
  obtain ⟨x, cs, g0, off0, hx, hA0, hR0, hc0⟩ := RdSl.at_ (RdSl.below (R := RdRo) RdRo.below HR.out.r B) hj
  obtain ⟨vx, rfl, hRx, hLx⟩ := hR0
  dsimp only at hA0
  have q0 : w3.cell? ⟨g0, off0 + j * 2, none⟩ = some (.slice vx.A vx.n vx.c) := hc0 0 _ rfl
  have q1 : w3.cell? ⟨g0, off0 + j * 2 + 1, none⟩ = some (.string x.journal) := hc0 1 _ rfl
  have hjs := HJ.out x (List.mem_of_getElem? hx.out)
  obtain ⟨u, e0, zu, cu⟩ := cat x.journal torn 1048576 1048576 hjs HTS.out (by omega)
  have HF := Lib.hid (restT_yes HB.out HI.out hx.out e0.out)
  obtain ⟨g, vr, hA, p0, p1, pf, hRd, hg, hgB, hgm, hvl, put2, putF, putJ⟩ := O.rob (by have := X1.lt; omega) hx.out
  have hg1 := hlt1 g hgm
  subst hA0
  clear hc0 hRx hLx hin put2 putF putJ p0 p1 pf hRd hA
  go_wp2_with fail
  refine Calls.mono (impl_ReadJournal_k u _ (by omega) (HTb.out.below B)) ?_
  rintro e w4 ⟨vn, rfl, hon, hfn, hb4⟩
  have X0 := X0.below hb4
  have X1 := X1.below hb4
  have X2 := X2.below hb4
  have O := O.below hb4
  have B := bTrans B hb4
  obtain ⟨g2, vr, hA, p0, p1, pf, hRd, hg, hgB, hgm, hvl, put2, putF, putJ⟩ := O.rob (by have := X1.lt; omega) hx.out
  have hg1 := hlt1 g2 hgm
  obtain ⟨n, hne⟩ : ∃ n, n = rdN u := ⟨_, rfl⟩
  have hnu := rdN_le u
  rw [← hne] at hnu HF ⊢
  have hn0 : (0 : Int) ≤ (n : Int) := by omega
  have hn1 : (n : Int) ≤ (u.size : Int) := by omega
  clear a0 a1 a2 b0 b1 b2 b3 c0 c1 c3
  rw [hA] at X2
  have b0 := X1.c0; have b1 := X1.c1; have b2 := X1.fz; have b3 := X1.lt; have c0 := X2.c0; have c1 := X2.c1; have c3 := X2.lt
  have HP := Lib.hid put2
  have HPF := Lib.hid putF
  have HPJ := Lib.hid putJ
  have hu2 : u.size ≤ 4194304 := by omega
  have hus : (u.extract 0 n).size ≤ 4194304 := Nat.le_trans (ext_sz u 0 n) hu2
  have d1 : g2 ≠ w1.heap.size := by omega
  have d2 : g2 ≠ w.heap.size + 1 := by omega
  clear put2 putF putJ hne q0 q1
  go_wp2_with fail
  go_region_law (first | (go_simp; go_at_call 50; refine Calls.mono (impl_ReplayJournal_k (u.extract 0 n) _ hus (HTb.out.below (bTrans B (by repeat (first | with_reducible exact (Below.refl _ _) | with_reducible refine bAlloc ?_ _ | with_reducible refine bDrew ?_ | with_reducible refine bDrewN ?_ _))))) ?_; rintro e w5 ⟨vf, rfl, hof, hff, hb5⟩; have hW := bTrans (show Below w4.heap.size w4 _ from (by repeat (first | with_reducible exact (Below.refl _ _) | with_reducible refine bAlloc ?_ _ | with_reducible refine bDrew ?_ | with_reducible refine bDrewN ?_ _))) hb5; have p0 := bCell hW p0; have p1 := bCell hW p1; have pf := fun o => (bBoxF hW g2 hg o).trans (pf o); have X1 := X1.below hW; have X2 := X2.below hW; have b0 := X1.c0; have b1 := X1.c1; have b2 := X1.fz; have c0 := X2.c0; have c1 := X2.c1; have c3 := X2.lt; have b3 := X1.lt; have s5 := hW.size; have pz : g2 < w5.heap.size := by omega))
  all_goals
    obtain ⟨v5, O5, st5, _⟩ := HP.out w5 hW vf _ hof (hff.rebase (by simp)) (u.extract 0 n)
    rw [← HF.out] at O5
    have uS : Upd [g2] w5 ((w5.setCell ⟨g2, j * 2, none⟩ (.slice vf.A vf.n vf.c)).setCell ⟨g2, j * 2 + 1, none⟩ (.string (u.extract 0 n))) := ((Upd.refl _ _).set_in (by simp) _).set_in (by simp) _
    have B5 := bUpd (bTrans B hW) uS (fun q hq => by simp at hq; omega)
    go_wp2_with fail
    refine bodyPost_ret (v := .agg #[.slice (some ⟨g2, 0, none⟩) v1.r.n v1.r.c, .slice v1.c.A v1.c.n v1.c.c]) (by simp [*, results, Tryz.results16, go_sem]) rfl ?_
    exact ⟨v5, by rw [← hA]; simp only [vTeam, st5.r, st5.c], teamEnd_ B5 O5 _ _⟩
theorem spec_RestartRobot_k (v : TV) (t : Team) (r : Int) (torn : ByteArray) (w : World) (hm : bulkT t ≤ 1048576) (hok : okT t) (hr : RdT w v t) (hwf : (Lit.int .i64 r).wf = true) (ht : torn.size ≤ 1048576) :
    Calls Tryz.prog 20 #[vTeam v, .int .i64 r, .string torn] w fun e w' => ∃ v', e = .returned (vTeam v') ∧ OwT w' v' (restT t r torn) ∧ Fresh w.heap.size w' (fpT v') ∧ Below w.heap.size w w' := by
  have FT := Lib.hid (fewT_of (Nat.le_trans hm (show 1048576 ≤ 4194304 by decide)))
  have HM := Lib.hid (Nat.le_trans hm (show 1048576 ≤ 4194304 by decide))
  have HJ := Lib.hid (fun (x : Robot) (h : x ∈ t.robots) => jrn_size hm h)
  have HK := Lib.hid hok
  have HR := Lib.hid hr
  have HL : Hid (t.robots.length = v.r.n) := hr.r.len
  have HN : Hid (v.r.n ≤ 4194304) := by have h1 := fewT_len FT.out; have := HL.out; rw [Hid]; omega
  have HTS := Lib.hid ht
  obtain ⟨⟨Ar, nr, cr⟩, ⟨Ac, nc, cc⟩, fr, fc⟩ := v
  generalize hbt : isTeam t = bt
  generalize hbr : isRob t r = br
  have HB := Lib.hid hbt
  have HI := Lib.hid hbr
  clear hbt hbr hm hok hr hwf ht
  go_enter Tryz.func20, Tryz.ntmps20
  go_wp2_with fail
  refine Calls.mono (spec_l30Copy_k ⟨⟨Ar, nr, cr⟩, ⟨Ac, nc, cc⟩, fr, fc⟩ t _ FT.out ?_) ?_
  · exact HR.out.below (bAlloc (bAlloc (Below.refl _ _) _) _)
  rintro e w1 ⟨v1, rfl, ho1, hf1, hb1⟩
  have B := bTrans (bAlloc (bAlloc (Below.refl w.heap.size w) _) _) hb1
  have X0 : Bx2 w1 w.heap.size (.slice Ar nr cr) (.slice Ac nc cc) := Bx2.below ⟨by go_simp, by go_simp, fun o => by go_simp⟩ hb1
  have X1 : Bx2 w1 (w.heap.size + 1) (.slice none 0 0) (.slice none 0 0) := Bx2.below ⟨by go_simp, by go_simp, fun o => by go_simp⟩ hb1
  have O : OT (w.heap.size + 2) w1 v1 t := ⟨ho1, hf1.rebase (by simp)⟩
  have a0 := X0.c0; have a1 := X0.c1; have a2 := X0.lt; have b0 := X1.c0; have b1 := X1.c1; have b2 := X1.fz; have b3 := X1.lt
  have hv1 : v1.r.n = nr := by have h1 := O.own.r.len.out; have h2 := HL.out; (try dsimp only at h2); omega
  have hlt1 := O.lt
  clear ho1 hf1
  go_wp2_with fail
  refine Calls.mono (spec_IsTeam_k ⟨⟨Ar, nr, cr⟩, ⟨Ac, nc, cc⟩, fr, fc⟩ t _ HM.out HK.out ?_) ?_
  · exact HR.out.below (bAlloc B _)
  rintro e w2 ⟨he, hb2⟩
  rw [HB.out] at he
  subst he
  have X2 : Bx2 w2 w1.heap.size (.slice v1.r.A v1.r.n v1.r.c) (.slice v1.c.A v1.c.n v1.c.c) := Bx2.below ⟨by go_simp, by go_simp, fun o => by go_simp⟩ hb2
  have hbb2 : Below w1.heap.size w1 w2 := bTrans (bAlloc (Below.refl _ _) _) hb2
  have X0 := X0.below hbb2
  have X1 := X1.below hbb2
  have O := O.below hbb2
  have B := bTrans B hbb2
  clear a0 a1 a2 b0 b1 b2 b3
  have a0 := X0.c0; have a1 := X0.c1; have a2 := X0.lt; have b0 := X1.c0; have b1 := X1.c1; have b2 := X1.fz; have b3 := X1.lt; have c0 := X2.c0; have c1 := X2.c1; have c3 := X2.lt
  cases bt
  · have HF := Lib.hid (restT_no (r := r) (s := torn) (.inl HB.out))
    go_wp2_with fail
    refine bodyPost_ret (v := vTeam v1) (by simp [*, results, Tryz.results20, go_sem]) rfl ?_
    rw [HF.out]
    exact ⟨v1, rfl, teamEnd_ B O _ _⟩
  go_wp2_with fail
  refine Calls.mono (spec_l30Robot_c ⟨⟨Ar, nr, cr⟩, ⟨Ac, nc, cc⟩, fr, fc⟩ t r _ HL.out HN.out) ?_
  rintro e w3 ⟨he, hb3⟩
  rw [HI.out] at he
  subst he
  have X0 := X0.below hb3
  have X1 := X1.below hb3
  have X2 := X2.below hb3
  have O := O.below hb3
  have hbb3 := bTrans hbb2 hb3
  have B := bTrans B hb3
  clear a0 a1 a2 b0 b1 b2 b3 c0 c1 c3
  have a0 := X0.c0; have a1 := X0.c1; have a2 := X0.lt; have b0 := X1.c0; have b1 := X1.c1; have b2 := X1.fz; have b3 := X1.lt; have c0 := X2.c0; have c1 := X2.c1; have c3 := X2.lt
  cases br
  · have HF := Lib.hid (restT_no (r := r) (s := torn) (.inr HI.out))
    go_wp2_with fail
    refine bodyPost_ret (v := vTeam v1) (by simp [*, results, Tryz.results20, go_sem]) rfl ?_
    rw [HF.out]
    exact ⟨v1, rfl, teamEnd_ B O _ _⟩
  have hin := isRob_iff.1 HI.out
  obtain ⟨j, rfl⟩ : ∃ j : Nat, r = j := ⟨r.toNat, by omega⟩
  have hj : j < nr := by have := HL.out; (try dsimp only at this); omega
  have z0 : (0 : Int) ≤ (j : Int) := by omega
  have z1 : (j : Int) < (nr : Int) := by omega
  have z2 : (j : Int) < (v1.r.n : Int) := by omega
  obtain ⟨x, cs, g0, off0, hx, hA0, hR0, hc0⟩ := RdSl.at_ (RdSl.below (R := RdRo) RdRo.below HR.out.r B) hj
  obtain ⟨vx, rfl, hRx, hLx⟩ := hR0
  dsimp only at hA0
  have q0 : w3.cell? ⟨g0, off0 + j * 2, none⟩ = some (.slice vx.A vx.n vx.c) := hc0 0 _ rfl
  have q1 : w3.cell? ⟨g0, off0 + j * 2 + 1, none⟩ = some (.string x.journal) := hc0 1 _ rfl
  have hjs := HJ.out x (List.mem_of_getElem? hx.out)
  obtain ⟨u, e0, zu, cu⟩ := cat x.journal torn 1048576 1048576 hjs HTS.out (by omega)
  have HF := Lib.hid (restT_yes HB.out HI.out hx.out e0.out)
  obtain ⟨g, vr, hA, p0, p1, pf, hRd, hg, hgB, hgm, hvl, put2, putF, putJ⟩ := O.rob (by have := X1.lt; omega) hx.out
  have hg1 := hlt1 g hgm
  rw [hA] at c0
  clear hc0 hRx hLx hin put2 putF putJ hRd hA0
  go_wp2_with fail
  refine Calls.mono (spec_ReadJournal_k u _ (by omega)) ?_
  rintro e w4 ⟨vn, rfl, hon, hfn, hb4⟩
  have X0 := X0.below hb4
  have X1 := X1.below hb4
  have X2 := X2.below hb4
  have O := O.below hb4
  have B := bTrans B hb4
  obtain ⟨g2, vr, hA, p0, p1, pf, hRd, hg, hgB, hgm, hvl, put2, putF, putJ⟩ := O.rob (by have := X1.lt; omega) hx.out
  have hg1 := hlt1 g2 hgm
  obtain ⟨n, hne⟩ : ∃ n, n = rdN u := ⟨_, rfl⟩
  have hnu := rdN_le u
  rw [← hne] at hnu HF ⊢
  have hn0 : (0 : Int) ≤ (n : Int) := by omega
  have hn1 : (n : Int) ≤ (u.size : Int) := by omega
  clear a0 a1 a2 b0 b1 b2 b3 c0 c1 c3
  rw [hA] at X2
  have b0 := X1.c0; have b1 := X1.c1; have b2 := X1.fz; have b3 := X1.lt; have c0 := X2.c0; have c1 := X2.c1; have c3 := X2.lt
  have HP := Lib.hid put2
  have HPF := Lib.hid putF
  have HPJ := Lib.hid putJ
  have hu2 : u.size ≤ 4194304 := by omega
  have hus : (u.extract 0 n).size ≤ 4194304 := Nat.le_trans (ext_sz u 0 n) hu2
  have d1 : g2 ≠ w1.heap.size := by omega
  have d2 : g2 ≠ w.heap.size + 1 := by omega
  clear put2 putF putJ hne q0 q1
  go_wp2_with fail
  go_region
  all_goals
    obtain ⟨v5, O5, st5, _⟩ := HPJ.out w4 (Below.refl _ _) (u.extract 0 n)
    have uS : Upd [g2] w4 (w4.setCell ⟨g2, j * 2 + 1, none⟩ (.string (u.extract 0 n))) := (Upd.refl _ _).set_in (by simp) _
    have B5 := bDrew (bUpd B uS (fun q hq => by simp at hq; omega))
    have X1 := (X1.upd uS (by simp; omega)).below (bDrew (Below.refl _ _))
    have X2 := (X2.upd uS (by simp; omega)).below (bDrew (Below.refl _ _))
    have O5 := O5.below (bDrew (Below.refl _ _))
    have st5 := st5.below (bDrew (Below.refl _ _))
    obtain ⟨W5, hW5⟩ : ∃ W5, W5 = (w4.setCell ⟨g2, j * 2 + 1, none⟩ (.string (u.extract 0 n))).drew := ⟨_, rfl⟩
    rw [← hW5] at O5 st5 B5 X1 X2 ⊢
    have hx5 : (setR t j ⟨x.factors, u.extract 0 n⟩).robots[j]? = some ⟨x.factors, u.extract 0 n⟩ := by
      unfold setR; simp only; rw [List.getElem?_set_self (List.getElem?_eq_some_iff.1 hx.out).1]
    obtain ⟨g6, vr6, hA6, p60, p61, pf6, hRd6, hg6, hgB6, hgm6, hvl6, put26, putF6, putJ6⟩ := O5.rob (by have := X1.lt; omega) hx5
    rw [st5.r, hA] at hA6
    obtain rfl : g6 = g2 := by simpa using hA6.symm
    have HP6 := Lib.hid putF6
    clear b0 b1 b2 b3 c0 c1 c3 p0 p1 pf hW5 put26 putF6 putJ6 HP HPF HPJ
    have b0 := X1.c0; have b1 := X1.c1; have b2 := X1.fz; have b3 := X1.lt; have c0 := X2.c0; have c1 := X2.c1; have c3 := X2.lt
    go_wp2_with fail
    go_region_law (first | (go_simp; go_at_call 59; refine Calls.mono (spec_ReplayJournal_k (u.extract 0 n) _ hus) ?_; rintro e w6 ⟨vf, rfl, hof, hff, hb6⟩; have hW := bTrans (show Below W5.heap.size W5 _ from (by repeat (first | with_reducible exact (Below.refl _ _) | with_reducible refine bAlloc ?_ _ | with_reducible refine bDrew ?_ | with_reducible refine bDrewN ?_ _))) hb6; have p0 := bCell hW p60; have p1 := bCell hW p61; have pf := fun o => (bBoxF hW g6 hg6 o).trans (pf6 o); have X1 := X1.below hW; have X2 := X2.below hW; have b0 := X1.c0; have b1 := X1.c1; have b2 := X1.fz; have c0 := X2.c0; have c1 := X2.c1; have c3 := X2.lt; have b3 := X1.lt; have s5 := hW.size; have pz : g6 < w6.heap.size := by omega))
    all_goals
      obtain ⟨v6, O6, st6, _⟩ := HP6.out w6 hW vf _ hof (hff.rebase (by simp))
      rw [setR_setR, ← HF.out] at O6
      have uS : Upd [g6] w6 (w6.setCell ⟨g6, j * 2, none⟩ (.slice vf.A vf.n vf.c)) := (Upd.refl _ _).set_in (by simp) _
      have B6 := bUpd (bTrans B5 hW) uS (fun q hq => by simp at hq; omega)
      go_wp2_with fail
      refine bodyPost_ret (v := .agg #[.slice (some ⟨g6, 0, none⟩) v1.r.n v1.r.c, .slice v1.c.A v1.c.n v1.c.c]) (by simp [*, results, Tryz.results20, go_sem]) rfl ?_
      exact ⟨v6, by rw [← hA]; simp only [vTeam, st6.r, st6.c, st5.r, st5.c], teamEnd_ B6 O6 _ _⟩
end Go.Proofs.YtdfemnffpaopfaaGreatDoor


/- The walk of the law FnExactRestartRobot. -/
namespace Go.Proofs.YtdfemnffpaopfaaGreatDoor
open Go.RowKit
set_option linter.unusedVariables false
set_option linter.unusedSimpArgs false
set_option maxHeartbeats 1600000
set_option maxRecDepth 100000
theorem w_FnExactRestartRobot (W : World) (v0 : TV) (d0 : Team) (hr0 : RdT W v0 d0) (hok0 : okT d0) (hl0 : lenT v0) (d1 : Int) (wf1 : (Lit.int .i64 d1).wf = true) (d2 : ByteArray) (wf2 : d2.size ≤ maxLen) (hT : TabJ W) :
    Calls Tryz.prog 4 #[vTeam v0, .int .i64 d1, .string d2] W fun e w' => e = rBool true ∧ Below W.heap.size W w' := by
  have HT := Lib.hid hT
  clear hT
  go_enter Tryz.func4, Tryz.ntmps4
  by_cases hlong2 : d2.size ≤ 1048576
  rotate_left
  · go_wp2_with fail
    go_ret
    exact ⟨rfl, by repeat (first | exact Below.refl _ _ | refine bAlloc ?_ _)⟩
  go_wp2_with fail
  refine Calls.mono (szTeam_k v0 d0 _ _ (by omega) (by omega) hl0 hok0 ?_) ?_
  · exact hr0.below (by repeat (first | with_reducible exact Below.refl _ _ | with_reducible refine bAlloc ?_ _))
  rintro e w1 ⟨⟨r0, rfl, hp⟩, hb1⟩
  have hk1 : Below W.heap.size W w1 := bTrans (by repeat (first | with_reducible exact Below.refl _ _ | with_reducible refine bAlloc ?_ _)) hb1
  have hs1 := hk1.size
  have hz1 := hb1.size
  (try simp at hz1)
  have kb1_a0 := bBox hb1 (W.heap.size) (by first | omega | (simp; done) | (simp; omega))
  have hlt1_a0 : W.heap.size < w1.heap.size := by omega
  have H := bTrans (Below.refl _ W) hk1
  rcases hp with rfl | ⟨hp0, hp1⟩
  · go_wp2_with fail
    go_ret
    exact ⟨rfl, H⟩
  have hrl0 : r0 ≤ 1048576 := by have := hp1.out; omega
  have hr00 : 0 ≤ r0 := hp0
  have hm0 : bulkT d0 ≤ 1048576 := by have := hp1.out; omega
  have HM0 := Lib.hid hm0
  have hfw0 := fewT_of (Nat.le_trans hm0 (by decide))
  clear hp0 hp1
  go_wp2_with fail
  refine Calls.mono (toTeam_k v0 d0 _ hfw0 ?_) ?_
  · exact hr0.below (by repeat (first | with_reducible exact H | with_reducible refine bAlloc ?_ _))
  rintro e w2 ⟨v_x1, rfl, ho_x1, hf_x1, hb2⟩
  have hk2 : Below w1.heap.size w1 w2 := bTrans (by repeat (first | with_reducible exact Below.refl _ _ | with_reducible refine bAlloc ?_ _)) hb2
  have hs2 := hk2.size
  have hz2 := hb2.size
  (try simp at hz2)
  have kb2_a0 := bBox hk2 (W.heap.size) (by omega)
  have hlt2_a0 : W.heap.size < w2.heap.size := by omega
  have H := bTrans H hk2
  have hlo_x1 : Hid (∀ q ∈ fpT v_x1, w1.heap.size ≤ q) := fun q hq => by have h1 := hf_x1.lo q hq; (try simp at h1); omega
  have hhi_x1 : Hid (∀ q ∈ fpT v_x1, q < w2.heap.size) := hf_x1.hi
  go_wp2_with fail
  refine Calls.mono (spec_RestartRobot_k v_x1 d0 d1 d2 _ HM0.out hok0 ?_ wf1 hlong2) ?_
  · exact (ho_x1.rd.below (by repeat (first | with_reducible exact Below.refl _ _ | with_reducible refine bAlloc ?_ _)))
  rintro e w3 ⟨v_w0, rfl, ho_w0, hf_w0, hb3⟩
  have hk3 : Below w2.heap.size w2 w3 := bTrans (by repeat (first | with_reducible exact Below.refl _ _ | with_reducible refine bAlloc ?_ _)) hb3
  have hs3 := hk3.size
  have hz3 := hb3.size
  (try simp at hz3)
  have kb3_a0 := bBox hk3 (W.heap.size) (by omega)
  have hlt3_a0 : W.heap.size < w3.heap.size := by omega
  have ho_x1 := ho_x1.below hk3
  have H := bTrans H hk3
  have hlo_w0 : Hid (∀ q ∈ fpT v_w0, w2.heap.size ≤ q) := fun q hq => by have h1 := hf_w0.lo q hq; (try simp at h1); omega
  have hhi_w0 : Hid (∀ q ∈ fpT v_w0, q < w3.heap.size) := hf_w0.hi
  go_wp2_with fail
  refine Calls.mono (toTeam_k v0 d0 _ hfw0 ?_) ?_
  · exact hr0.below (by repeat (first | with_reducible exact H | with_reducible refine bAlloc ?_ _))
  rintro e w4 ⟨v_x2, rfl, ho_x2, hf_x2, hb4⟩
  have hk4 : Below w3.heap.size w3 w4 := bTrans (by repeat (first | with_reducible exact Below.refl _ _ | with_reducible refine bAlloc ?_ _)) hb4
  have hs4 := hk4.size
  have hz4 := hb4.size
  (try simp at hz4)
  have kb4_a0 := bBox hk4 (W.heap.size) (by omega)
  have kb4_w0 := bBox hb4 (w3.heap.size) (by first | omega | (simp; done) | (simp; omega))
  have hlt4_a0 : W.heap.size < w4.heap.size := by omega
  have hlt4_w0 : w3.heap.size < w4.heap.size := by omega
  have ho_x1 := ho_x1.below hk4
  have ho_w0 := ho_w0.below hk4
  have H := bTrans H hk4
  have hlo_x2 : Hid (∀ q ∈ fpT v_x2, w3.heap.size + 1 ≤ q) := fun q hq => by have h1 := hf_x2.lo q hq; (try simp at h1); omega
  have hhi_x2 : Hid (∀ q ∈ fpT v_x2, q < w4.heap.size) := hf_x2.hi
  go_wp2_with fail
  refine Calls.mono (impl_RestartRobot_k v_x2 d0 d1 d2 _ HM0.out hok0 ?_ wf1 hlong2 ?_) ?_
  · exact (ho_x2.rd.below (by repeat (first | with_reducible exact Below.refl _ _ | with_reducible refine bAlloc ?_ _)))
  · exact HT.out.below (by repeat (first | with_reducible exact H | with_reducible refine bAlloc ?_ _))
  rintro e w5 ⟨v_g0, rfl, ho_g0, hf_g0, hb5⟩
  have hk5 : Below w4.heap.size w4 w5 := bTrans (by repeat (first | with_reducible exact Below.refl _ _ | with_reducible refine bAlloc ?_ _)) hb5
  have hs5 := hk5.size
  have hz5 := hb5.size
  (try simp at hz5)
  have kb5_a0 := bBox hk5 (W.heap.size) (by omega)
  have kb5_w0 := bBox hk5 (w3.heap.size) (by omega)
  have kb5_x0v := bBox hb5 (w4.heap.size) (by first | omega | (simp; done) | (simp; omega))
  have hlt5_a0 : W.heap.size < w5.heap.size := by omega
  have hlt5_w0 : w3.heap.size < w5.heap.size := by omega
  have hlt5_x0v : w4.heap.size < w5.heap.size := by omega
  have ho_x1 := ho_x1.below hk5
  have ho_w0 := ho_w0.below hk5
  have ho_x2 := ho_x2.below hk5
  have H := bTrans H hk5
  have hlo_g0 : Hid (∀ q ∈ fpT v_g0, w4.heap.size + 1 ≤ q) := fun q hq => by have h1 := hf_g0.lo q hq; (try simp at h1); omega
  have hhi_g0 : Hid (∀ q ∈ fpT v_g0, q < w5.heap.size) := hf_g0.hi
  go_wp2_with fail
  refine Calls.mono (eqTeam_k v_g0 v_w0 (restT d0 d1 d2) _ (fewT_rest HM0.out d1 d2) ?_ ?_) ?_
  · exact (ho_g0.rd.below (by repeat (first | with_reducible exact Below.refl _ _ | with_reducible refine bAlloc ?_ _)))
  · exact (ho_w0.rd.below (by repeat (first | with_reducible exact Below.refl _ _ | with_reducible refine bAlloc ?_ _)))
  rintro e w6 ⟨rfl, hb6⟩
  have hk6 : Below w5.heap.size w5 w6 := bTrans (by repeat (first | with_reducible exact Below.refl _ _ | with_reducible refine bAlloc ?_ _)) hb6
  have hs6 := hk6.size
  have hz6 := hb6.size
  (try simp at hz6)
  have kb6_a0 := bBox hk6 (W.heap.size) (by omega)
  have kb6_w0 := bBox hk6 (w3.heap.size) (by omega)
  have kb6_x0v := bBox hk6 (w4.heap.size) (by omega)
  have kb6_g0 := bBox hb6 (w5.heap.size) (by first | omega | (simp; done) | (simp; omega))
  have hlt6_a0 : W.heap.size < w6.heap.size := by omega
  have hlt6_w0 : w3.heap.size < w6.heap.size := by omega
  have hlt6_x0v : w4.heap.size < w6.heap.size := by omega
  have hlt6_g0 : w5.heap.size < w6.heap.size := by omega
  have ho_x1 := ho_x1.below hk6
  have ho_w0 := ho_w0.below hk6
  have ho_x2 := ho_x2.below hk6
  have ho_g0 := ho_g0.below hk6
  have H := bTrans H hk6
  go_wp2_with fail
  refine region_at fun R6 hW6 => ?_
  have hr6r : Below w6.heap.size w6 R6 := by rw [hW6.out]; exact (by repeat (first | with_reducible exact Below.refl _ _ | with_reducible refine bAlloc ?_ _))
  have Hr6 := bTrans H hr6r
  have kr6_x0v := bBox hr6r (w4.heap.size) (by omega)
  have g6_0 : R6.cell? ⟨w4.heap.size, 0, none⟩ = some (.slice v_x2.r.A v_x2.r.n v_x2.r.c) := by rw [kr6_x0v, kb6_x0v, kb5_x0v]; simp
  have g6_1 : R6.cell? ⟨w4.heap.size, 1, none⟩ = some (.slice v_x2.c.A v_x2.c.n v_x2.c.c) := by rw [kr6_x0v, kb6_x0v, kb5_x0v]; simp
  have kr6_a0 := bBox hr6r (W.heap.size) (by omega)
  have g6_2 : R6.cell? ⟨W.heap.size, 0, none⟩ = some (.slice v0.r.A v0.r.n v0.r.c) := by rw [kr6_a0, kb6_a0, kb5_a0, kb4_a0, kb3_a0, kb2_a0, kb1_a0]; simp
  have g6_3 : R6.cell? ⟨W.heap.size, 1, none⟩ = some (.slice v0.c.A v0.c.n v0.c.c) := by rw [kr6_a0, kb6_a0, kb5_a0, kb4_a0, kb3_a0, kb2_a0, kb1_a0]; simp
  have hzr6 := hr6r.size
  go_region_held3 (fun w' => w'.cell? ⟨w4.heap.size, 0, none⟩ = some (.slice v_x2.r.A v_x2.r.n v_x2.r.c) ∧ w'.cell? ⟨w4.heap.size, 1, none⟩ = some (.slice v_x2.c.A v_x2.c.n v_x2.c.c) ∧ w'.cell? ⟨W.heap.size, 0, none⟩ = some (.slice v0.r.A v0.r.n v0.r.c) ∧ w'.cell? ⟨W.heap.size, 1, none⟩ = some (.slice v0.c.A v0.c.n v0.c.c)) (first | go_keep | ((repeat' apply And.intro) <;> (first | exact bCell hb8 (bCell hb7 (by assumption)) | exact bCell hb7 (by assumption) | exact bCell hb7 (by assumption) | exact bCell hb8 (by assumption)))) ((first | (go_at_call 21; refine (toTeam_k v0 d0 _ hfw0 (hr0.below (bDrew Hr6))).mono ?_; rintro e w7 ⟨v_x3, rfl, ho_x3, hf_x3, hb7⟩) | (go_at_call 22; refine (eqTeam_k v_x2 v_x3 d0 _ hfw0 (ho_x2.rd.below (bTrans (bDrew hr6r) hb7)) ho_x3.rd).mono ?_; rintro e w8 ⟨rfl, hb8⟩)))
  have hk7 : Below w6.heap.size w6 w7 := bTrans (bDrew hr6r) hb7
  have hs7 := hk7.size
  have hz7 := hb7.size
  (try simp at hz7)
  have hk8 : Below w7.heap.size w7 w8 := hb8
  have hs8 := hk8.size
  have kb8_a0 : ∀ o, w8.cell? ⟨W.heap.size, o, none⟩ = w6.cell? ⟨W.heap.size, o, none⟩ := fun o => (bBox hk8 (W.heap.size) (by omega) o).trans (bBox hk7 (W.heap.size) (by omega) o)
  have kb8_w0 : ∀ o, w8.cell? ⟨w3.heap.size, o, none⟩ = w6.cell? ⟨w3.heap.size, o, none⟩ := fun o => (bBox hk8 (w3.heap.size) (by omega) o).trans (bBox hk7 (w3.heap.size) (by omega) o)
  have kb8_x0v : ∀ o, w8.cell? ⟨w4.heap.size, o, none⟩ = w6.cell? ⟨w4.heap.size, o, none⟩ := fun o => (bBox hk8 (w4.heap.size) (by omega) o).trans (bBox hk7 (w4.heap.size) (by omega) o)
  have kb8_g0 : ∀ o, w8.cell? ⟨w5.heap.size, o, none⟩ = w6.cell? ⟨w5.heap.size, o, none⟩ := fun o => (bBox hk8 (w5.heap.size) (by omega) o).trans (bBox hk7 (w5.heap.size) (by omega) o)
  have hlt8_a0 : W.heap.size < w8.heap.size := by omega
  have hlt8_w0 : w3.heap.size < w8.heap.size := by omega
  have hlt8_x0v : w4.heap.size < w8.heap.size := by omega
  have hlt8_g0 : w5.heap.size < w8.heap.size := by omega
  have ho_x1 := ((ho_x1.below hk7).below hk8)
  have ho_w0 := ((ho_w0.below hk7).below hk8)
  have ho_x2 := ((ho_x2.below hk7).below hk8)
  have ho_g0 := ((ho_g0.below hk7).below hk8)
  have hlo_x3 : Hid (∀ q ∈ fpT v_x3, w6.heap.size ≤ q) := fun q hq => by have h1 := hf_x3.lo q hq; (try simp at h1); omega
  have hhi_x3 : Hid (∀ q ∈ fpT v_x3, q < w7.heap.size) := hf_x3.hi
  have ho_x3 := (ho_x3.below hk8)
  have H := (bTrans (bTrans H hk7) hk8)
  go_wp2_with fail
  refine Calls.mono (markTeam_k v_x2 d0 _ _ (by omega) (by omega) hfw0 ?_ hf_x2.nodup) ?_
  · exact (ho_x2.below (by repeat (first | with_reducible exact Below.refl _ _ | with_reducible refine bAlloc ?_ _)))
  rintro e w9 ⟨rfl, ho_x2n, hu9⟩
  have hv9 : Upd (fpT v_x2) w8 w9 := (Upd.of_below (by repeat (first | with_reducible exact Below.refl _ _ | with_reducible refine bAlloc ?_ _))).trans hu9
  have hs9 := hv9.size
  have hz9 := hu9.size
  (try simp at hz9)
  have kb9_a0 := uBox hv9 (W.heap.size) (by omega) (fun hm => by have h1 := hlo_x2.out _ hm; have h2 := hhi_x2.out _ hm; omega)
  have kb9_w0 := uBox hv9 (w3.heap.size) (by omega) (fun hm => by have h1 := hlo_x2.out _ hm; have h2 := hhi_x2.out _ hm; omega)
  have kb9_x0v := uBox hv9 (w4.heap.size) (by omega) (fun hm => by have h1 := hlo_x2.out _ hm; have h2 := hhi_x2.out _ hm; omega)
  have kb9_g0 := uBox hv9 (w5.heap.size) (by omega) (fun hm => by have h1 := hlo_x2.out _ hm; have h2 := hhi_x2.out _ hm; omega)
  have hlt9_a0 : W.heap.size < w9.heap.size := by omega
  have hlt9_w0 : w3.heap.size < w9.heap.size := by omega
  have hlt9_x0v : w4.heap.size < w9.heap.size := by omega
  have hlt9_g0 : w5.heap.size < w9.heap.size := by omega
  have ho_x1 := ho_x1.upd hv9 (fun q hq hm => by have h1 := hlo_x1.out q hq; have h2 := hhi_x1.out q hq; have h3 := hlo_x2.out q hm; have h4 := hhi_x2.out q hm; omega)
  have ho_w0 := ho_w0.upd hv9 (fun q hq hm => by have h1 := hlo_w0.out q hq; have h2 := hhi_w0.out q hq; have h3 := hlo_x2.out q hm; have h4 := hhi_x2.out q hm; omega)
  have ho_g0 := ho_g0.upd hv9 (fun q hq hm => by have h1 := hlo_g0.out q hq; have h2 := hhi_g0.out q hq; have h3 := hlo_x2.out q hm; have h4 := hhi_x2.out q hm; omega)
  have ho_x3 := ho_x3.upd hv9 (fun q hq hm => by have h1 := hlo_x3.out q hq; have h2 := hhi_x3.out q hq; have h3 := hlo_x2.out q hm; have h4 := hhi_x2.out q hm; omega)
  have H := bUpd H hv9 (fun q hq => by have h1 := hlo_x2.out q hq; omega)
  have ho_x2 := ho_x2n
  clear ho_x2n
  have hc9 := cntT_few (show fewT d0 from hfw0)
  go_wp2_with fail
  refine Calls.mono (eqTeam_k v_g0 v_w0 (restT d0 d1 d2) _ (fewT_rest HM0.out d1 d2) ?_ ?_) ?_
  · exact (ho_g0.rd.below (by repeat (first | with_reducible exact Below.refl _ _ | with_reducible refine bAlloc ?_ _)))
  · exact (ho_w0.rd.below (by repeat (first | with_reducible exact Below.refl _ _ | with_reducible refine bAlloc ?_ _)))
  rintro e w10 ⟨rfl, hb10⟩
  have hk10 : Below w9.heap.size w9 w10 := bTrans (by repeat (first | with_reducible exact Below.refl _ _ | with_reducible refine bAlloc ?_ _)) hb10
  have hs10 := hk10.size
  have hz10 := hb10.size
  (try simp at hz10)
  have kb10_a0 := bBox hk10 (W.heap.size) (by omega)
  have kb10_w0 := bBox hk10 (w3.heap.size) (by omega)
  have kb10_x0v := bBox hk10 (w4.heap.size) (by omega)
  have kb10_g0 := bBox hk10 (w5.heap.size) (by omega)
  have hlt10_a0 : W.heap.size < w10.heap.size := by omega
  have hlt10_w0 : w3.heap.size < w10.heap.size := by omega
  have hlt10_x0v : w4.heap.size < w10.heap.size := by omega
  have hlt10_g0 : w5.heap.size < w10.heap.size := by omega
  have ho_x1 := ho_x1.below hk10
  have ho_w0 := ho_w0.below hk10
  have ho_x2 := ho_x2.below hk10
  have ho_g0 := ho_g0.below hk10
  have ho_x3 := ho_x3.below hk10
  have H := bTrans H hk10
  go_wp2_with fail
  refine Calls.mono (markTeam_k v_g0 (restT d0 d1 d2) _ _ (by omega) (by omega) (fewT_rest HM0.out d1 d2) ?_ hf_g0.nodup) ?_
  · exact (ho_g0.below (by repeat (first | with_reducible exact Below.refl _ _ | with_reducible refine bAlloc ?_ _)))
  rintro e w11 ⟨rfl, ho_g0n, hu11⟩
  have hv11 : Upd (fpT v_g0) w10 w11 := (Upd.of_below (by repeat (first | with_reducible exact Below.refl _ _ | with_reducible refine bAlloc ?_ _))).trans hu11
  have hs11 := hv11.size
  have hz11 := hu11.size
  (try simp at hz11)
  have kb11_a0 := uBox hv11 (W.heap.size) (by omega) (fun hm => by have h1 := hlo_g0.out _ hm; have h2 := hhi_g0.out _ hm; omega)
  have kb11_w0 := uBox hv11 (w3.heap.size) (by omega) (fun hm => by have h1 := hlo_g0.out _ hm; have h2 := hhi_g0.out _ hm; omega)
  have kb11_x0v := uBox hv11 (w4.heap.size) (by omega) (fun hm => by have h1 := hlo_g0.out _ hm; have h2 := hhi_g0.out _ hm; omega)
  have kb11_g0 := uBox hv11 (w5.heap.size) (by omega) (fun hm => by have h1 := hlo_g0.out _ hm; have h2 := hhi_g0.out _ hm; omega)
  have hlt11_a0 : W.heap.size < w11.heap.size := by omega
  have hlt11_w0 : w3.heap.size < w11.heap.size := by omega
  have hlt11_x0v : w4.heap.size < w11.heap.size := by omega
  have hlt11_g0 : w5.heap.size < w11.heap.size := by omega
  have ho_x1 := ho_x1.upd hv11 (fun q hq hm => by have h1 := hlo_x1.out q hq; have h2 := hhi_x1.out q hq; have h3 := hlo_g0.out q hm; have h4 := hhi_g0.out q hm; omega)
  have ho_w0 := ho_w0.upd hv11 (fun q hq hm => by have h1 := hlo_w0.out q hq; have h2 := hhi_w0.out q hq; have h3 := hlo_g0.out q hm; have h4 := hhi_g0.out q hm; omega)
  have ho_x2 := ho_x2.upd hv11 (fun q hq hm => by have h1 := hlo_x2.out q hq; have h2 := hhi_x2.out q hq; have h3 := hlo_g0.out q hm; have h4 := hhi_g0.out q hm; omega)
  have ho_x3 := ho_x3.upd hv11 (fun q hq hm => by have h1 := hlo_x3.out q hq; have h2 := hhi_x3.out q hq; have h3 := hlo_g0.out q hm; have h4 := hhi_g0.out q hm; omega)
  have H := bUpd H hv11 (fun q hq => by have h1 := hlo_g0.out q hq; omega)
  have ho_g0 := ho_g0n
  clear ho_g0n
  have hc11 := cntT_few (show fewT (restT d0 d1 d2) from (fewT_rest HM0.out d1 d2))
  go_wp2_with fail
  refine Calls.mono (heldTeam_k v_g0 (restT d0 d1 d2) _ _ (by omega) (by omega) (fewT_rest HM0.out d1 d2) ?_) ?_
  · exact (ho_g0.rd.below (by repeat (first | with_reducible exact Below.refl _ _ | with_reducible refine bAlloc ?_ _)))
  rintro e w12 ⟨rfl, hb12⟩
  have hk12 : Below w11.heap.size w11 w12 := bTrans (by repeat (first | with_reducible exact Below.refl _ _ | with_reducible refine bAlloc ?_ _)) hb12
  have hs12 := hk12.size
  have hz12 := hb12.size
  (try simp at hz12)
  have kb12_a0 := bBox hk12 (W.heap.size) (by omega)
  have kb12_w0 := bBox hk12 (w3.heap.size) (by omega)
  have kb12_x0v := bBox hk12 (w4.heap.size) (by omega)
  have kb12_g0 := bBox hk12 (w5.heap.size) (by omega)
  have hlt12_a0 : W.heap.size < w12.heap.size := by omega
  have hlt12_w0 : w3.heap.size < w12.heap.size := by omega
  have hlt12_x0v : w4.heap.size < w12.heap.size := by omega
  have hlt12_g0 : w5.heap.size < w12.heap.size := by omega
  have ho_x1 := ho_x1.below hk12
  have ho_w0 := ho_w0.below hk12
  have ho_x2 := ho_x2.below hk12
  have ho_g0 := ho_g0.below hk12
  have ho_x3 := ho_x3.below hk12
  have H := bTrans H hk12
  go_wp2_with fail
  refine Calls.mono (toTeam_k v0 d0 _ hfw0 ?_) ?_
  · exact hr0.below (by repeat (first | with_reducible exact H | with_reducible refine bAlloc ?_ _))
  rintro e w13 ⟨v_x4, rfl, ho_x4, hf_x4, hb13⟩
  have hk13 : Below w12.heap.size w12 w13 := bTrans (by repeat (first | with_reducible exact Below.refl _ _ | with_reducible refine bAlloc ?_ _)) hb13
  have hs13 := hk13.size
  have hz13 := hb13.size
  (try simp at hz13)
  have kb13_a0 := bBox hk13 (W.heap.size) (by omega)
  have kb13_w0 := bBox hk13 (w3.heap.size) (by omega)
  have kb13_x0v := bBox hk13 (w4.heap.size) (by omega)
  have kb13_g0 := bBox hk13 (w5.heap.size) (by omega)
  have hlt13_a0 : W.heap.size < w13.heap.size := by omega
  have hlt13_w0 : w3.heap.size < w13.heap.size := by omega
  have hlt13_x0v : w4.heap.size < w13.heap.size := by omega
  have hlt13_g0 : w5.heap.size < w13.heap.size := by omega
  have ho_x1 := ho_x1.below hk13
  have ho_w0 := ho_w0.below hk13
  have ho_x2 := ho_x2.below hk13
  have ho_g0 := ho_g0.below hk13
  have ho_x3 := ho_x3.below hk13
  have H := bTrans H hk13
  have hlo_x4 : Hid (∀ q ∈ fpT v_x4, w12.heap.size ≤ q) := fun q hq => by have h1 := hf_x4.lo q hq; (try simp at h1); omega
  have hhi_x4 : Hid (∀ q ∈ fpT v_x4, q < w13.heap.size) := hf_x4.hi
  go_wp2_with fail
  refine Calls.mono (impl_RestartRobot_k v_x4 d0 d1 d2 _ HM0.out hok0 ?_ wf1 hlong2 ?_) ?_
  · exact (ho_x4.rd.below (by repeat (first | with_reducible exact Below.refl _ _ | with_reducible refine bAlloc ?_ _)))
  · exact HT.out.below (by repeat (first | with_reducible exact H | with_reducible refine bAlloc ?_ _))
  rintro e w14 ⟨v_h0, rfl, ho_h0, hf_h0, hb14⟩
  have hk14 : Below w13.heap.size w13 w14 := bTrans (by repeat (first | with_reducible exact Below.refl _ _ | with_reducible refine bAlloc ?_ _)) hb14
  have hs14 := hk14.size
  have hz14 := hb14.size
  (try simp at hz14)
  have kb14_a0 := bBox hk14 (W.heap.size) (by omega)
  have kb14_w0 := bBox hk14 (w3.heap.size) (by omega)
  have kb14_x0v := bBox hk14 (w4.heap.size) (by omega)
  have kb14_g0 := bBox hk14 (w5.heap.size) (by omega)
  have hlt14_a0 : W.heap.size < w14.heap.size := by omega
  have hlt14_w0 : w3.heap.size < w14.heap.size := by omega
  have hlt14_x0v : w4.heap.size < w14.heap.size := by omega
  have hlt14_g0 : w5.heap.size < w14.heap.size := by omega
  have ho_x1 := ho_x1.below hk14
  have ho_w0 := ho_w0.below hk14
  have ho_x2 := ho_x2.below hk14
  have ho_g0 := ho_g0.below hk14
  have ho_x3 := ho_x3.below hk14
  have ho_x4 := ho_x4.below hk14
  have H := bTrans H hk14
  have hlo_h0 : Hid (∀ q ∈ fpT v_h0, w13.heap.size ≤ q) := fun q hq => by have h1 := hf_h0.lo q hq; (try simp at h1); omega
  have hhi_h0 : Hid (∀ q ∈ fpT v_h0, q < w14.heap.size) := hf_h0.hi
  go_wp2_with fail
  refine Calls.mono (eqTeam_k v_h0 v_w0 (restT d0 d1 d2) _ (fewT_rest HM0.out d1 d2) ?_ ?_) ?_
  · exact (ho_h0.rd.below (by repeat (first | with_reducible exact Below.refl _ _ | with_reducible refine bAlloc ?_ _)))
  · exact (ho_w0.rd.below (by repeat (first | with_reducible exact Below.refl _ _ | with_reducible refine bAlloc ?_ _)))
  rintro e w15 ⟨rfl, hb15⟩
  have hk15 : Below w14.heap.size w14 w15 := bTrans (by repeat (first | with_reducible exact Below.refl _ _ | with_reducible refine bAlloc ?_ _)) hb15
  have hs15 := hk15.size
  have hz15 := hb15.size
  (try simp at hz15)
  have kb15_a0 := bBox hk15 (W.heap.size) (by omega)
  have kb15_w0 := bBox hk15 (w3.heap.size) (by omega)
  have kb15_x0v := bBox hk15 (w4.heap.size) (by omega)
  have kb15_g0 := bBox hk15 (w5.heap.size) (by omega)
  have kb15_h0 := bBox hb15 (w14.heap.size) (by first | omega | (simp; done) | (simp; omega))
  have hlt15_a0 : W.heap.size < w15.heap.size := by omega
  have hlt15_w0 : w3.heap.size < w15.heap.size := by omega
  have hlt15_x0v : w4.heap.size < w15.heap.size := by omega
  have hlt15_g0 : w5.heap.size < w15.heap.size := by omega
  have hlt15_h0 : w14.heap.size < w15.heap.size := by omega
  have ho_x1 := ho_x1.below hk15
  have ho_w0 := ho_w0.below hk15
  have ho_x2 := ho_x2.below hk15
  have ho_g0 := ho_g0.below hk15
  have ho_x3 := ho_x3.below hk15
  have ho_x4 := ho_x4.below hk15
  have ho_h0 := ho_h0.below hk15
  have H := bTrans H hk15
  go_wp2_with fail
  refine Calls.mono (heldTeam_k v_g0 (restT d0 d1 d2) _ _ (by omega) (by omega) (fewT_rest HM0.out d1 d2) ?_) ?_
  · exact (ho_g0.rd.below (by repeat (first | with_reducible exact Below.refl _ _ | with_reducible refine bAlloc ?_ _)))
  rintro e w16 ⟨rfl, hb16⟩
  have hk16 : Below w15.heap.size w15 w16 := bTrans (by repeat (first | with_reducible exact Below.refl _ _ | with_reducible refine bAlloc ?_ _)) hb16
  have hs16 := hk16.size
  have hz16 := hb16.size
  (try simp at hz16)
  have kb16_a0 := bBox hk16 (W.heap.size) (by omega)
  have kb16_w0 := bBox hk16 (w3.heap.size) (by omega)
  have kb16_x0v := bBox hk16 (w4.heap.size) (by omega)
  have kb16_g0 := bBox hk16 (w5.heap.size) (by omega)
  have kb16_h0 := bBox hk16 (w14.heap.size) (by omega)
  have hlt16_a0 : W.heap.size < w16.heap.size := by omega
  have hlt16_w0 : w3.heap.size < w16.heap.size := by omega
  have hlt16_x0v : w4.heap.size < w16.heap.size := by omega
  have hlt16_g0 : w5.heap.size < w16.heap.size := by omega
  have hlt16_h0 : w14.heap.size < w16.heap.size := by omega
  have ho_x1 := ho_x1.below hk16
  have ho_w0 := ho_w0.below hk16
  have ho_x2 := ho_x2.below hk16
  have ho_g0 := ho_g0.below hk16
  have ho_x3 := ho_x3.below hk16
  have ho_x4 := ho_x4.below hk16
  have ho_h0 := ho_h0.below hk16
  have H := bTrans H hk16
  go_wp2_with fail
  go_ret
  exact ⟨rfl, H⟩
end Go.Proofs.YtdfemnffpaopfaaGreatDoor

