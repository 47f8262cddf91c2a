/- Texts of this proof, one behind the other: Law, Entry. -/
import Derived.ProofKit
import Derived.OpenShut
import Derived.Carry
import Derived.Deep.Slices
import Derived.Test.YtebcdjpddoaajaaDoorGs0
import Derived.Test.YtebcdjpddoaajaaDoorGs3
import Derived.Test.YtebcdjpddoaajaaDoorGs6
/- From a walk to a law's statement: how arguments are opened, and what is owed behind the call. No program in sight. -/
namespace Go.Proofs.YtebcdjpddoaajaaDoor
open Go.ChangeShapes Go.WideShapes Go.ChangeAt Go.RowKit Go.Deep
set_option linter.unusedVariables false
set_option linter.unusedSimpArgs false

section
variable {H : Type} {enc : TypeId × Value → H} {P : Program}

theorem trodAll_below (hl : laidOutB P = true) {W W' : World} {sp : Nat → Bool} (hb : Below W.heap.size W W') : ∀ (ts : List TypeId) (vs : List Value) (ds : List (DataW H)) (ps : List MemPlace),
    ts.all (fun t => P.readableRec t && decide (t < P.types.size)) = true → DataW.TrodAll enc P W 0 (fun _ => true) true ts vs ds ps → (∀ x ∈ ps, x.block < W.heap.size) → (∀ x ∈ ps, sp x.block = true) → DataW.TrodAll enc P W' 0 sp true ts vs ds ps
  | [], vs, ds, ps, _, h, _, _ => by
    obtain ⟨rfl, rfl, rfl⟩ := trodAll_nil h
    exact trodAll_mk0
  | t :: ts, vs, ds, ps, ht, h, hlt, hs => by
    obtain ⟨v, vs', d, ds', p, q, rfl, rfl, rfl, h1, h2⟩ := trodAll_cons h
    simp only [List.all_cons, Bool.and_eq_true, decide_eq_true_eq] at ht
    exact trodAll_cons_mk (WideElems.Trod_stays hl ht.1.1 ht.1.2 h1 (fun x hx => hb.same (hlt x (by simp [hx]))) (fun x hx => hs x (by simp [hx])))
      (trodAll_below hl hb ts vs' ds' q ht.2 h2 (fun x hx => hlt x (by simp [hx])) (fun x hx => hs x (by simp [hx])))

theorem law_post (hl : laidOutB P = true) {f : Func} {s : ChangeSpec} {W W' : World} {args : Array Value} {ds : List (DataW H)} {before : List MemPlace} {tb : TypeId}
    (hp : f.params.toList.all (fun t => P.readableRec t && decide (t < P.types.size)) = true) (hrt : f.resultTypes = #[tb]) (htb : P.underlying tb = some .bool) (hvars : s.vars = [])
    (hW : DataW.Whole enc P f.params.toList s.vars false W args.toList ds [] before) (hs : s.fn H (ds ++ []) = { results := [.lit (.bool true)], args := ds }) (hb : Below W.heap.size W W') :
    s.post enc P f false true false false W args (.bool true) W' := by
  have hlt : ∀ p ∈ before, p.block < W.heap.size := fun p hp => hW.lt p hp
  have hW0 := hW
  obtain ⟨p, q, hA, hV, rfl, hz, hn⟩ := hW
  rw [hvars] at hV
  have hq : q = [] := hV
  subst hq
  refine ⟨ds, [], p ++ [], [], p, [], hW0, ?_, ?_, ?_, hb.frame _, fun h => by cases h⟩
  · rw [hs, hrt]
    exact trodAll_cons_mk (p := []) (p' := []) (shut_bool htb _) trodAll_mk0
  · rw [hs]
    exact trodAll_below hl hb _ _ _ _ hp hA (fun x hx => hlt x (by simp [hx])) (fun x hx => by simpa using hlt x (by simp [hx]))
  · rw [hs, hvars]
    rfl

/-! ### what the arguments are made of -/
/-- cells that read as a value of type t are good -/
def Opens (P : Program) (w : World) (t : TypeId) (good : List Value → Prop) : Prop :=
  ∀ (H : Type) (enc : TypeId × Value → H) (base fuel : Nat) (spare : Nat → Bool) (held : Bool) (cs : List Value) (x : DataW H × List MemPlace), DataW.trod enc P w base spare held fuel t cs = some x → good cs
def gInt (cs : List Value) : Prop := ∃ n : Int, cs = [.int .i64 n] ∧ (Lit.int .i64 n).wf = true
def gStr (cs : List Value) : Prop := ∃ s : ByteArray, cs = [.string s] ∧ s.size ≤ maxLen
def gBool (cs : List Value) : Prop := ∃ b : Bool, cs = [.bool b]
theorem opens_int {w : World} {t : TypeId} (ht : P.underlying t = some (.int .i64)) : Opens P w t gInt := fun H enc base fuel spare held cs x h => by
  obtain ⟨n, rfl, _, hw⟩ := DataW.trod_int ht h
  exact ⟨n, rfl, hw⟩
theorem opens_str {w : World} {t : TypeId} (ht : P.underlying t = some .string) : Opens P w t gStr := fun H enc base fuel spare held cs x h => by
  obtain ⟨n, rfl, _, hw⟩ := DataW.trod_string ht h
  exact ⟨n, rfl, hw⟩
theorem opens_bool {w : World} {t : TypeId} (ht : P.underlying t = some .bool) : Opens P w t gBool := fun H enc base fuel spare held cs x h => by
  obtain ⟨n, rfl, _⟩ := DataW.trod_bool ht h
  exact ⟨n, rfl⟩
/-- a struct, field by field -/
theorem opens_field {w : World} {t : TypeId} {fs : Array Field} (ht : P.underlying t = some (.struct fs)) {H : Type} {enc : TypeId × Value → H} {base fuel : Nat} {spare : Nat → Bool} {held : Bool} {cs : List Value} {x : DataW H × List MemPlace}
    (h : DataW.trod enc P w base spare held fuel t cs = some x) : cs.length = P.cellsOf t ∧ ∀ (j : Nat) (f : Field) (good : List Value → Prop), fs[j]? = some f → Opens P w f.type good → good ((cs.drop f.offset).take (P.cellsOf f.type)) := by
  obtain ⟨xs, n, _, _, hl, hlen, hf⟩ := DataW.trod_struct ht h
  refine ⟨hl, fun j f good hj ho => ?_⟩
  have h1 := hf j f hj
  have hjl : j < fs.size := (Array.getElem?_eq_some_iff.1 hj).1
  cases hx : xs[j]? with
  | none => rw [List.getElem?_eq_none_iff] at hx; omega
  | some y => rw [hx] at h1; exact ho _ _ _ _ _ _ _ _ h1
/-- a slice: nil, or cells that are good, element by element -/
def gSlice (w : World) (sz : Nat) (good : List Value → Prop) (cs : List Value) : Prop :=
  ∃ (A : Option Addr) (n c : Nat) (css : List (List Value)), cs = [.slice A n c] ∧ n ≤ c ∧ c ≤ maxLen ∧ Row w A n sz css ∧ ∀ es ∈ css, es.length = sz ∧ good es
theorem opens_slice {w : World} {t e : TypeId} {sz : Nat} {good : List Value → Prop} (ht : P.underlying t = some (.slice e)) (hsz : P.cellsOf e = sz) (he : Opens P w e good)  (hs : 0 < sz) : Opens P w t (gSlice w sz good) := fun H enc base fuel spare held cs x h => by
  rcases open_slice ht h with ⟨rfl, _⟩ | ⟨a, len, cap, m, n, D, Pl, rfl, _, hl, hm, hmm, _, hi⟩
  · exact ⟨none, 0, 0, [], rfl, Nat.le_refl _, Nat.zero_le _, ⟨rfl, by simp⟩, by simp⟩
  · have hlm : len ≤ m := by rw [hmm]; split <;> omega
    have key : ∀ i, i < len → ∃ cs', w.cells? base (a.add (i * P.cellsOf e)) (P.cellsOf e) = some cs' ∧ good cs' := fun i hil => by
      obtain ⟨cs', h1, h2⟩ := hi i (by omega)
      exact ⟨cs', h1, he _ _ _ _ _ _ _ _ h2⟩
    subst hsz
    have hF : ∃ F : Nat → List Value, ∀ i, i < len → w.cells? base (a.add (i * P.cellsOf e)) (P.cellsOf e) = some (F i) ∧ good (F i) :=
      ⟨fun i => if h : i < len then Classical.choose (key i h) else [], fun i hil => by
        simp only [hil, dif_pos]
        exact Classical.choose_spec (key i hil)⟩
    obtain ⟨F, hF⟩ := hF
    refine ⟨some a, len, cap, (List.range len).map F, rfl, hl, hm, ⟨by simp, fun i cs hi => ?_⟩, fun es hes => ?_⟩
    · obtain ⟨h1, h2⟩ := List.getElem?_eq_some_iff.1 hi
      simp only [List.length_map, List.length_range] at h1
      simp only [List.getElem_map, List.getElem_range] at h2
      subst h2
      have hc := World.cells?_some (hF i h1).1
      have hsp : a.spot = none := by
        have h0 := (World.cells?_some (hF 0 (by omega)).1).2.2 0 hs
        have hlen0 := (World.cells?_some (hF 0 (by omega)).1).2.1
        rw [List.getElem?_eq_getElem (by omega)] at h0
        have e1 : (a.add (0 * P.cellsOf e)).add 0 = a := by simp [Addr.add]
        rw [e1] at h0
        unfold World.cell? at h0
        split at h0
        · split at h0
          · cases h0
          · rename_i hn; simpa using hn
        · cases h0
      obtain ⟨g, off, sp⟩ := a
      simp only at hsp
      subst hsp
      refine ⟨g, off, rfl, fun j v hv => ?_⟩
      have hj : j < P.cellsOf e := by rw [← hc.2.1]; exact (List.getElem?_eq_some_iff.1 hv).1
      have := hc.2.2 j hj
      rw [Addr.add_lit, Addr.add_lit] at this
      rw [this, hv]
    · obtain ⟨i, hi, rfl⟩ := List.mem_map.1 hes
      have hil : i < len := by simpa using hi
      exact ⟨(World.cells?_some (hF i hil).1).2.1, (hF i hil).2⟩
end

/-! ### from good cells to data -/
theorem list_of {α : Type} {c : α → List Value} {ok : α → Prop} : ∀ (css : List (List Value)), (∀ es ∈ css, ∃ f, es = c f ∧ ok f) → ∃ l : List α, css = l.map c ∧ ∀ f ∈ l, ok f
  | [], _ => ⟨[], rfl, by simp⟩
  | e :: r, h => by
    obtain ⟨f, rfl, hf⟩ := h e (by simp)
    obtain ⟨l, rfl, hl⟩ := list_of r (fun es hes => h es (by simp [hes]))
    exact ⟨f :: l, rfl, by simpa using ⟨hf, hl⟩⟩
theorem len1 {l : List Value} (h : l.length = 1) : ∃ a, l = [a] := by
  match l, h with
  | [a], _ => exact ⟨a, rfl⟩
theorem len2 {l : List Value} (h : l.length = 2) : ∃ a b, l = [a, b] := by
  match l, h with
  | [a, b], _ => exact ⟨a, b, rfl⟩
theorem len3 {l : List Value} (h : l.length = 3) : ∃ a b c, l = [a, b, c] := by
  match l, h with
  | [a, b, c], _ => exact ⟨a, b, c, rfl⟩
theorem len4 {l : List Value} (h : l.length = 4) : ∃ a b c d, l = [a, b, c, d] := by
  match l, h with
  | [a, b, c, d], _ => exact ⟨a, b, c, d, rfl⟩
theorem len6 {l : List Value} (h : l.length = 6) : ∃ a b c d e f, l = [a, b, c, d, e, f] := by
  match l, h with
  | [a, b, c, d, e, f], _ => exact ⟨a, b, c, d, e, f, rfl⟩
theorem len8 {l : List Value} (h : l.length = 8) : ∃ a b c d e f g i, l = [a, b, c, d, e, f, g, i] := by
  match l, h with
  | [a, b, c, d, e, f, g, i], _ => exact ⟨a, b, c, d, e, f, g, i, rfl⟩
theorem len10 {l : List Value} (h : l.length = 10) : ∃ a b c d e f g i j k, l = [a, b, c, d, e, f, g, i, j, k] := by
  match l, h with
  | [a, b, c, d, e, f, g, i, j, k], _ => exact ⟨a, b, c, d, e, f, g, i, j, k, rfl⟩
theorem arr_of {cs : Array Value} {l : List Value} (h : cs.toList = l) : cs = l.toArray := by rw [← h]
def wfI (n : Int) : Prop := (Lit.int .i64 n).wf = true
/-- what an argument's factor is known to be -/
def Factor.ok (f : Factor) : Prop := f.frm.size ≤ maxLen ∧ f.to.size ≤ maxLen ∧ wfI f.id ∧ wfI f.kind ∧ wfI f.pose.turn ∧ wfI f.pose.x ∧ wfI f.pose.y ∧ wfI f.weight
def Place.ok (f : Place) : Prop := f.name.size ≤ maxLen ∧ wfI f.bits
def Packet.ok (f : Packet) : Prop := f.text.size ≤ maxLen ∧ wfI f.number ∧ wfI f.sum
def gPose (cs : List Value) : Prop := ∃ p : Pose, cs = [.int .i64 p.turn, .int .i64 p.x, .int .i64 p.y] ∧ wfI p.turn ∧ wfI p.x ∧ wfI p.y
def gFactor (cs : List Value) : Prop := ∃ f : Factor, cs = f.cells ∧ f.ok
def gPlace (cs : List Value) : Prop := ∃ f : Place, cs = f.cells ∧ f.ok
def gPacket (cs : List Value) : Prop := ∃ f : Packet, cs = f.cells ∧ f.ok
theorem okFactor {l : List Factor} (h : ∀ f ∈ l, f.ok) : ∀ f ∈ l, f.frm.size ≤ maxLen ∧ f.to.size ≤ maxLen := fun f hf => ⟨(h f hf).1, (h f hf).2.1⟩
theorem okPlace {l : List Place} (h : ∀ f ∈ l, f.ok) : ∀ f ∈ l, f.name.size ≤ maxLen := fun f hf => (h f hf).1
theorem okPacket {l : List Packet} (h : ∀ f ∈ l, f.ok) : ∀ f ∈ l, f.text.size ≤ maxLen := fun f hf => (h f hf).1
theorem smallP {l : List Place} (h : Hid (sumBulk Place.bulk l ≤ 1048576)) : ∀ p ∈ l, p.name.size ≤ 1048576 := fun p hp => by
  have h1 := mem_bulk (c := Place.bulk) hp
  have h2 := h.out
  simp only [Place.bulk] at h1; omega
theorem smallF {l : List Factor} (h : Hid (sumBulk Factor.bulk l ≤ 1048576)) : ∀ f ∈ l, f.frm.size ≤ 1048576 ∧ f.to.size ≤ 1048576 := fun p hp => by
  have h1 := mem_bulk (c := Factor.bulk) hp
  have h2 := h.out
  simp only [Factor.bulk] at h1; omega
end Go.Proofs.YtebcdjpddoaajaaDoor

/- The walk of the law on IsValidEntry. -/
namespace Go.Proofs.YtebcdjpddoaajaaDoor
open Go.RowKit
set_option linter.unusedVariables false
set_option linter.unusedSimpArgs false
set_option maxHeartbeats 400000
set_option maxRecDepth 100000

theorem szEntry_c (rm : Bool) (eid id kind : Int) (fr to : ByteArray) (t x y wt : Int) (left : Int) (w : World) (h1 : 0 ≤ left) (h2 : left ≤ 1048576) (hf : fr.size ≤ maxLen) (ht : to.size ≤ maxLen) :
    Calls Tryd.prog 38 #[vEntry rm eid id kind fr to t x y wt, .int .i64 left] w fun e w' => SzPost left (fr.size + to.size) e ∧ Below w.heap.size w w' := by
  go_enter Tryd.func38, Tryd.ntmps38
  go_wp2_with fail
  refine Calls.mono (szFactor_c _ _ _ _ _ _ _ _ _ _ h1 h2 hf ht) ?_
  rintro e w1 ⟨⟨r, rfl, hp⟩, hb1⟩
  rcases hp with rfl | ⟨hp0, hp1⟩
  · go_wp2_with fail
    go_ret
    exact ⟨⟨_, rfl, .inl rfl⟩, bTrans (bAlloc (Below.refl _ _) _) hb1⟩
  · have hn : ¬ r < 0 := by omega
    go_wp2_with fail
    go_ret
    exact ⟨⟨_, rfl, .inr ⟨hp0, hp1⟩⟩, bTrans (bAlloc (Below.refl _ _) _) hb1⟩
theorem toEntry_c (rm : Bool) (eid id kind : Int) (fr to : ByteArray) (t x y wt : Int) (w : World) :
    Calls Tryd.prog 40 #[vEntry rm eid id kind fr to t x y wt] w fun e w' => e = .returned (vEntry rm eid id kind fr to t x y wt) ∧ Below w.heap.size w w' := by
  go_enter Tryd.func40, Tryd.ntmps40
  go_wp2_with (go_at_call 80; refine (toFactor_x _ _ _ _ _ _ _ _ _).mono ?_; rintro e w1 ⟨rfl, rfl⟩)
  exact bodyPost_ret (v := vEntry rm eid id kind fr to t x y wt) (by simp [results, Tryd.results40, go_sem]) rfl ⟨rfl, by repeat (first | exact Below.refl _ _ | refine bAlloc ?_ _)⟩
end Go.Proofs.YtebcdjpddoaajaaDoor
