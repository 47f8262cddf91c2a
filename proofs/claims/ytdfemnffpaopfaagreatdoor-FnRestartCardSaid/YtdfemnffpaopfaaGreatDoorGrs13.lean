/- Texts of this proof, one behind the other: Draw6. -/
import Derived.Deep.RegionLaw
import Derived.Deep.RegionHeld3
import Derived.BigRegion
import Derived.Deep.DeepCutAuto
import Derived.Test.YtdfemnffpaopfaaGreatDoorGrs8
import Derived.Test.YtdfemnffpaopfaaGreatDoorGrs9
import Derived.Test.YtdfemnffpaopfaaGreatDoorGrs11
import Derived.Test.YtdfemnffpaopfaaGreatDoorGrs12
namespace Go.Proofs.YtdfemnffpaopfaaGreatDoor
open Go.RowKit
set_option linter.unusedVariables false
set_option linter.unusedSimpArgs false
set_option maxHeartbeats 4000000
set_option maxRecDepth 100000
theorem info_Pose:(Tryz.prog.info? 32).map (fun i=>(i.zero,i.size,i.bytes))=some (some (.agg #[.int .i64 0,.int .i64 0,.int .i64 0]),3,24):=by kernel_rfl
def poseCells (p:Pose):List Value:=[.int .i64 p.turn,.int .i64 p.x,.int .i64 p.y]
def mnm (j:Nat):ByteArray:=⟨#[109]⟩++itoaB (j:Int)
def nmOK (s:ByteArray):Prop:=s=⟨#[]⟩∨(∃ j,j≤4∧s=pnm j)∨(∃ j,j≤1∧s=mnm j)
def FOK (f:Factor):Prop:=vldFactor f=true∧nmOK f.frm∧nmOK f.to
theorem mnm_eq {k:Nat} (h:k < 10):mnm k=⟨#[109,UInt8.ofNat (48+k)]⟩:=by
  apply bext
  unfold mnm itoaB
  rw [Lib.itoa_nonneg,Lib.decDigits_one h,ByteArray.data_append,Array.toList_append]
  rfl
theorem pnm_pose {k:Nat} (h:k < 10):isPoseNm (pnm k)=true:=by rw [pnm_eq h];exact nm_ok ⟨k,h⟩
theorem mnm_land:∀ k:Fin 10,isLandNm ⟨#[109,UInt8.ofNat (48+k.val)]⟩=true:=by decide +kernel
theorem pnm_ne:∀ j k:Fin 10,j≠k→((⟨#[112,UInt8.ofNat (48+j.val)]⟩:ByteArray).toList == (⟨#[112,UInt8.ofNat (48+k.val)]⟩:ByteArray).toList)=false:=by decide +kernel
theorem pnm_ne' {j k:Nat} (hj:j < 10) (hk:k < 10) (h:j≠k):((pnm j).toList == (pnm k).toList)=false:=by
  rw [pnm_eq hj,pnm_eq hk]
  exact pnm_ne ⟨j,hj⟩ ⟨k,hk⟩ (fun e=>h (by simpa using e))
def GOK (l:List Factor):Prop:=0 < l.length∧(∀ f∈l,FOK f)∧∀ (i:Nat) (f:Factor),l[i]? = some f→f.id=(i:Int)+1
def FOKi (l:List Factor) (f:Factor):Prop:=FOK f∧f.id=(l.length:Int)+1
theorem GOK.push {l:List Factor} {f:Factor} (h:GOK l) (hf:FOKi l f):GOK (l++[f]):=by
  refine ⟨by simp,fun g hg=>?_,fun i g hg=>?_⟩
  · rcases List.mem_append.1 hg with h1 | h1
    · exact h.2.1 g h1
    · simp only [List.mem_singleton] at h1;subst h1;exact hf.1
  · by_cases hi:i < l.length
    · rw [List.getElem?_append_left hi] at hg
      exact h.2.2 i g hg
    · rw [List.getElem?_append_right (by omega)] at hg
      have e:i - l.length=0:=by
        rcases Nat.eq_zero_or_pos (i - l.length) with h9 | h9
        · exact h9
        · rw [List.getElem?_eq_none (by simp;omega)] at hg;cases hg
      rw [e] at hg
      simp only [List.getElem?_cons_zero,Option.some.injEq] at hg
      subst hg
      rw [hf.2];omega
structure PSt (W w wr:World) (b:Nat) (A:Option Addr) (n c:Nat) (m:Nat) (Aa:Option Addr) (ca:Nat) (ps:List Pose) (Al:Option Addr) (cl:Nat) (l:List Factor):Prop where
  cur:Cur W wr b A n c
  upd:Upd [b] w wr
  at_:Own wr w.heap.size 32 3 Aa (m+1) ca (ps.map poseCells)
  fl:Own wr w.heap.size 34 8 Al l.length cl (l.map Factor.cells)
  ap:∀ q∈obl Aa,q ∉ obl Al
  near:∀ (i:Nat) (p:Pose),ps[i]? = some p→nearP (20+8 * i) p.turn p.x p.y
  ok:GOK l
theorem PSt.same {W w wr wr':World} {b:Nat} {A:Option Addr} {n c m:Nat} {Aa:Option Addr} {ca:Nat} {ps:List Pose} {Al:Option Addr} {cl:Nat} {l:List Factor} (h:PSt W w wr b A n c m Aa ca ps Al cl l) (hlt:b < w.heap.size)
    (hc:Cur W wr' b A n c) (hu:Upd [b] wr wr'):PSt W w wr' b A n c m Aa ca ps Al cl l :=
  ⟨hc,h.upd.trans hu,h.at_.upd hu (fun q hq hm=>by have h1:=(h.at_.lt q (mem_obl.1 hq)).1;simp at hm;omega),h.fl.upd hu (fun q hq hm=>by have h1:=(h.fl.lt q (mem_obl.1 hq)).1;simp at hm;omega),h.ap,h.near,h.ok⟩
theorem PSt.pushP {W w wr w9:World} {b:Nat} {A:Option Addr} {n c m:Nat} {Aa A8:Option Addr} {ca c8:Nat} {ps:List Pose} {Al:Option Addr} {cl:Nat} {l:List Factor} {o:Obj} {p:Pose} (h:PSt W w wr b A n c m Aa ca ps Al cl l) (hlt:b < w.heap.size) (hW:Below W.heap.size W w) (hbW:W.heap.size≤b)
    (hg:(wr.alloc o).grownBy w9 (ob Aa)) (ho:Own w9 w.heap.size 32 3 A8 (m+1+1) c8 (ps.map poseCells++[poseCells p])) (hat:ob A8=ob Aa∨ob A8=some (wr.alloc o).heap.size) (hp:nearP (20+8 * ((m+1:Nat):Int)) p.turn p.x p.y) :
    PSt W w w9 b A n c (m+1) A8 c8 (ps++[p]) Al cl l:=by
  have hlen:ps.length=m+1:=by have:=h.at_.len;simpa using this
  have hu:Upd [b] w w9:=Upd.grown_hi2 (h.upd.alloc_ _) hg (fun q hq=>(h.at_.lt q hq).1)
  refine ⟨(h.cur.alloc_ o).keep (bUpd1 (w:=w) hW hu hbW) (hg.block b (by have:=h.cur.lt;simp;omega) (fun e=>by have:=(h.at_.lt b e.symm).1;omega)),hu,by rw [List.map_append];exact ho,?_,?_,?_,h.ok⟩
  · exact (h.fl.alloc_ o).upd (Upd.of_row hg) (fun q hq hm=>h.ap q hm hq)
  · intro q hq hm
    rcases hat with h1 | h1
    · exact h.ap q (mem_obl.2 (h1 ▸ mem_obl.1 hq)) hm
    · have h2:=mem_obl.1 hq
      rw [h1] at h2
      have h3:=Option.some.inj h2
      have h4:=(h.fl.lt q (mem_obl.1 hm)).2
      simp at h3;omega
  · intro i q hq
    by_cases hi:i < ps.length
    · rw [List.getElem?_append_left hi] at hq
      exact h.near i q hq
    · rw [List.getElem?_append_right (by omega)] at hq
      have:i - ps.length=0:=by
        rcases Nat.eq_zero_or_pos (i - ps.length) with h9 | h9
        · exact h9
        · rw [List.getElem?_eq_none (by simp;omega)] at hq;cases hq
      rw [this] at hq
      simp only [List.getElem?_cons_zero,Option.some.injEq] at hq
      subst hq
      have e:i=m+1:=by omega
      subst e
      exact hp
theorem PSt.pushF {W w wr w9:World} {b:Nat} {A:Option Addr} {n c m:Nat} {Aa A8:Option Addr} {ca c8:Nat} {ps:List Pose} {Al:Option Addr} {cl:Nat} {l:List Factor} {o:Obj} {f:Factor} (h:PSt W w wr b A n c m Aa ca ps Al cl l) (hlt:b < w.heap.size) (hW:Below W.heap.size W w) (hbW:W.heap.size≤b)
    (hg:(wr.alloc o).grownBy w9 (ob Al)) (ho:Own w9 w.heap.size 34 8 A8 (l.length+1) c8 (l.map Factor.cells++[f.cells])) (hat:ob A8=ob Al∨ob A8=some (wr.alloc o).heap.size) (hf:FOKi l f) :
    PSt W w w9 b A n c m Aa ca ps A8 c8 (l++[f]):=by
  have hu:Upd [b] w w9:=Upd.grown_hi2 (h.upd.alloc_ _) hg (fun q hq=>(h.fl.lt q hq).1)
  refine ⟨(h.cur.alloc_ o).keep (bUpd1 (w:=w) hW hu hbW) (hg.block b (by have:=h.cur.lt;simp;omega) (fun e=>by have:=(h.fl.lt b e.symm).1;omega)),hu,?_,by simpa using ho,?_,h.near,h.ok.push hf⟩
  · exact (h.at_.alloc_ o).upd (Upd.of_row hg) (fun q hq hm=>h.ap q hq hm)
  · intro q hq hm
    rcases hat with h1 | h1
    · exact h.ap q hq (mem_obl.2 (h1 ▸ mem_obl.1 hm))
    · have h2:=mem_obl.1 hm
      rw [h1] at h2
      have h3:=Option.some.inj h2
      have h4:=(h.at_.lt q (mem_obl.1 hq)).2
      simp at h3;omega
theorem PSt.alloc_ {W w wr:World} {b:Nat} {A:Option Addr} {n c m:Nat} {Aa:Option Addr} {ca:Nat} {ps:List Pose} {Al:Option Addr} {cl:Nat} {l:List Factor} (h:PSt W w wr b A n c m Aa ca ps Al cl l) (o:Obj):PSt W w (wr.alloc o) b A n c m Aa ca ps Al cl l :=
  ⟨h.cur.alloc_ o,h.upd.alloc_ o,h.at_.alloc_ o,h.fl.alloc_ o,h.ap,h.near,h.ok⟩
theorem PSt.below {W w wr wr':World} {b:Nat} {A:Option Addr} {n c m:Nat} {Aa:Option Addr} {ca:Nat} {ps:List Pose} {Al:Option Addr} {cl:Nat} {l:List Factor} (h:PSt W w wr b A n c m Aa ca ps Al cl l) (hb:Below wr.heap.size wr wr'):PSt W w wr' b A n c m Aa ca ps Al cl l :=
  ⟨h.cur.below hb,h.upd.then_below hb,h.at_.below hb,h.fl.below hb,h.ap,h.near,h.ok⟩
theorem PSt.set_ {W w wr:World} {b:Nat} {A:Option Addr} {n c m:Nat} {Aa:Option Addr} {ca:Nat} {ps:List Pose} {Al:Option Addr} {cl:Nat} {l:List Factor} (h:PSt W w wr b A n c m Aa ca ps Al cl l) {p:Addr} (hb:b < p.block) (hw:w.heap.size≤p.block) (h1:¬ ob Aa=some p.block) (h2:¬ ob Al=some p.block) (u:Value):PSt W w (wr.setCell p u) b A n c m Aa ca ps Al cl l :=
  have hu:Upd [p.block] wr (wr.setCell p u):=(Upd.refl [p.block] wr).set_in (by simp) u
  ⟨h.cur.set_ hb u,h.upd.set_new hw u,h.at_.upd hu (fun q hq hm=>by simp only [List.mem_singleton] at hm;subst hm;exact h1 (mem_obl.1 hq)),h.fl.upd hu (fun q hq hm=>by simp only [List.mem_singleton] at hm;subst hm;exact h2 (mem_obl.1 hq)),h.ap,h.near,h.ok⟩
structure RS (W w:World) (b:Nat) (A:Option Addr) (n c m g off ca:Nat) (ps:List Pose) (Al:Option Addr) (cl:Nat) (l:List Factor) (ii jj:Nat) (p q:Pose) (cs:Array Value) (fz:Option Nat) (w':World):Prop where
  st:PSt W w w' b A n c m (some ⟨g,off,none⟩) ca ps Al cl l
  k:w'.cell? ⟨g,off+ii * 3,none⟩=some (.int .i64 p.turn)∧w'.cell? ⟨g,off+ii * 3+1,none⟩=some (.int .i64 p.x)∧w'.cell? ⟨g,off+ii * 3+2,none⟩=some (.int .i64 p.y)∧w'.cell? ⟨g,off+jj * 3,none⟩=some (.int .i64 q.turn)∧w'.cell? ⟨g,off+jj * 3+1,none⟩=some (.int .i64 q.x)∧w'.cell? ⟨g,off+jj * 3+2,none⟩=some (.int .i64 q.y)
  box:∀ z,fz=some z→(∀ (k:Nat) (v:Value),cs[k]? = some v→w'.cell? ⟨z,k,none⟩=some v)∧(∀ o,w'.frozen? ⟨z,o,none⟩=false)∧b < z∧w.heap.size≤z∧z < w'.heap.size∧¬ g=z∧¬ ob Al=some z
theorem RS.below {W w:World} {b:Nat} {A:Option Addr} {n c m g off ca:Nat} {ps:List Pose} {Al:Option Addr} {cl:Nat} {l:List Factor} {ii jj:Nat} {p q:Pose} {cs:Array Value} {fz:Option Nat} {wr:World} (h:RS W w b A n c m g off ca ps Al cl l ii jj p q cs fz wr) (wr':World) (hb:Below wr.heap.size wr wr'):RS W w b A n c m g off ca ps Al cl l ii jj p q cs fz wr' :=
  have B:∀ {a:Addr} {v:Value},wr.cell? a=some v→wr'.cell? a=some v:=fun h=>bCell hb h
  ⟨h.st.below hb,⟨B h.k.1,B h.k.2.1,B h.k.2.2.1,B h.k.2.2.2.1,B h.k.2.2.2.2.1,B h.k.2.2.2.2.2⟩,fun z hz =>
    have H:=h.box z hz
    ⟨fun k v hk=>B (H.1 k v hk),fun o=>(bBoxF hb z H.2.2.2.2.1 o).trans (H.2.1 o),H.2.2.1,H.2.2.2.1,Nat.lt_of_lt_of_le H.2.2.2.2.1 hb.size,H.2.2.2.2.2.1,H.2.2.2.2.2.2⟩⟩
theorem RS.allocF {W w:World} {b:Nat} {A:Option Addr} {n c m g off ca:Nat} {ps:List Pose} {Al:Option Addr} {cl:Nat} {l:List Factor} {ii jj:Nat} {p q:Pose} {cs:Array Value} {wr:World} {t:TypeId} (h:RS W w b A n c m g off ca ps Al cl l ii jj p q cs none wr):RS W w b A n c m g off ca ps Al cl l ii jj p q cs (some wr.heap.size) (wr.alloc (.cells cs t)) :=
  have B:∀ {a:Addr} {v:Value},wr.cell? a=some v→(wr.alloc (.cells cs t)).cell? a=some v:=fun h=>bCell (bAlloc (Below.refl _ _) _) h
  ⟨h.st.alloc_ _,⟨B h.k.1,B h.k.2.1,B h.k.2.2.1,B h.k.2.2.2.1,B h.k.2.2.2.2.1,B h.k.2.2.2.2.2⟩,fun z hz=>by
    cases hz
    have h1:=h.st.at_.lt g rfl
    have h2:=h.st.cur.lt
    refine ⟨fun k v hk=>cells_b hk,fun o=>frozen_a _ _ _ o,h2,by omega,by simp,by omega,fun e=>?_⟩
    have h3:=(h.st.fl.lt _ e).2
    omega⟩
theorem RS.kalloc {W w:World} {b:Nat} {A:Option Addr} {n c m g off ca:Nat} {ps:List Pose} {Al:Option Addr} {cl:Nat} {l:List Factor} {ii jj:Nat} {p q:Pose} {cs:Array Value} {fz:Option Nat} {wr:World} (h:RS W w b A n c m g off ca ps Al cl l ii jj p q cs fz wr) (o:Obj):(wr.alloc o).cell? ⟨g,off+ii * 3,none⟩=some (.int .i64 p.turn)∧(wr.alloc o).cell? ⟨g,off+ii * 3+1,none⟩=some (.int .i64 p.x)∧(wr.alloc o).cell? ⟨g,off+ii * 3+2,none⟩=some (.int .i64 p.y)∧(wr.alloc o).cell? ⟨g,off+jj * 3,none⟩=some (.int .i64 q.turn)∧(wr.alloc o).cell? ⟨g,off+jj * 3+1,none⟩=some (.int .i64 q.x)∧(wr.alloc o).cell? ⟨g,off+jj * 3+2,none⟩=some (.int .i64 q.y) :=
  have B:∀ {a:Addr} {v:Value},wr.cell? a=some v→(wr.alloc o).cell? a=some v:=fun h=>bCell (bAlloc (Below.refl _ _) _) h
  ⟨B h.k.1,B h.k.2.1,B h.k.2.2.1,B h.k.2.2.2.1,B h.k.2.2.2.2.1,B h.k.2.2.2.2.2⟩
theorem set_hit {w:World} {z k:Nat} (u:Value) {v:Value} (h:w.cell? ⟨z,k,none⟩=some v):(w.setCell ⟨z,k,none⟩ u).cell? ⟨z,k,none⟩=some u:=World.cell?_setCell_same _ _ _ h
theorem set_miss {w:World} {z k j:Nat} (u:Value) (hne:k≠j) {v:Value} (h:w.cell? ⟨z,j,none⟩=some v):(w.setCell ⟨z,k,none⟩ u).cell? ⟨z,j,none⟩=some v:=(World.cell?_setCell_other _ _ _ _ (fun e=>hne (Addr.mk.inj e).2.1)).trans h
theorem RS.set8 {W w:World} {b:Nat} {A:Option Addr} {n c m g off ca:Nat} {ps:List Pose} {Al:Option Addr} {cl:Nat} {l:List Factor} {ii jj:Nat} {p q:Pose} {cs:Array Value} {wr:World} {z:Nat} (h:RS W w b A n c m g off ca ps Al cl l ii jj p q cs (some z) wr) (hcs:cs.size=8) (u0 u1 u2 u3 u4 u5 u6 u7:Value):RS W w b A n c m g off ca ps Al cl l ii jj p q #[u0,u1,u2,u3,u4,u5,u6,u7] (some z) (((((((((wr).setCell ⟨z,0,none⟩ u0).setCell ⟨z,1,none⟩ u1).setCell ⟨z,2,none⟩ u2).setCell ⟨z,3,none⟩ u3).setCell ⟨z,4,none⟩ u4).setCell ⟨z,5,none⟩ u5).setCell ⟨z,6,none⟩ u6).setCell ⟨z,7,none⟩ u7):=by
  have H:=h.box z rfl
  have hg:=(h.st.at_.lt g rfl)
  have hu:Upd [z] wr (((((((((wr).setCell ⟨z,0,none⟩ u0).setCell ⟨z,1,none⟩ u1).setCell ⟨z,2,none⟩ u2).setCell ⟨z,3,none⟩ u3).setCell ⟨z,4,none⟩ u4).setCell ⟨z,5,none⟩ u5).setCell ⟨z,6,none⟩ u6).setCell ⟨z,7,none⟩ u7):=(((((((((Upd.refl [z] wr).set_in (by simp) u0).set_in (by simp) u1).set_in (by simp) u2).set_in (by simp) u3).set_in (by simp) u4).set_in (by simp) u5).set_in (by simp) u6).set_in (by simp) u7)
  have B:∀ (o:Nat) {v:Value},wr.cell? ⟨g,o,none⟩=some v→(((((((((wr).setCell ⟨z,0,none⟩ u0).setCell ⟨z,1,none⟩ u1).setCell ⟨z,2,none⟩ u2).setCell ⟨z,3,none⟩ u3).setCell ⟨z,4,none⟩ u4).setCell ⟨z,5,none⟩ u5).setCell ⟨z,6,none⟩ u6).setCell ⟨z,7,none⟩ u7).cell? ⟨g,o,none⟩=some v:=fun o v hh=>(uBox hu g hg.2 (by have:=H.2.2.2.2.2.1;simpa using this) o).trans hh
  refine ⟨((((((((((((((((h.st).set_ (p:=⟨z,0,none⟩) H.2.2.1 H.2.2.2.1 (fun e=>H.2.2.2.2.2.1 (Option.some.inj e)) H.2.2.2.2.2.2 u0)).set_ (p:=⟨z,1,none⟩) H.2.2.1 H.2.2.2.1 (fun e=>H.2.2.2.2.2.1 (Option.some.inj e)) H.2.2.2.2.2.2 u1)).set_ (p:=⟨z,2,none⟩) H.2.2.1 H.2.2.2.1 (fun e=>H.2.2.2.2.2.1 (Option.some.inj e)) H.2.2.2.2.2.2 u2)).set_ (p:=⟨z,3,none⟩) H.2.2.1 H.2.2.2.1 (fun e=>H.2.2.2.2.2.1 (Option.some.inj e)) H.2.2.2.2.2.2 u3)).set_ (p:=⟨z,4,none⟩) H.2.2.1 H.2.2.2.1 (fun e=>H.2.2.2.2.2.1 (Option.some.inj e)) H.2.2.2.2.2.2 u4)).set_ (p:=⟨z,5,none⟩) H.2.2.1 H.2.2.2.1 (fun e=>H.2.2.2.2.2.1 (Option.some.inj e)) H.2.2.2.2.2.2 u5)).set_ (p:=⟨z,6,none⟩) H.2.2.1 H.2.2.2.1 (fun e=>H.2.2.2.2.2.1 (Option.some.inj e)) H.2.2.2.2.2.2 u6)).set_ (p:=⟨z,7,none⟩) H.2.2.1 H.2.2.2.1 (fun e=>H.2.2.2.2.2.1 (Option.some.inj e)) H.2.2.2.2.2.2 u7),⟨B _ h.k.1,B _ h.k.2.1,B _ h.k.2.2.1,B _ h.k.2.2.2.1,B _ h.k.2.2.2.2.1,B _ h.k.2.2.2.2.2⟩,?_⟩
  intro z' hz'
  cases hz'
  have hz:∀ k,k < 8→∃ v,wr.cell? ⟨z,k,none⟩=some v:=fun k hk=>⟨_,H.1 k _ (Array.getElem?_eq_getElem (by omega))⟩
  refine ⟨?_,fun o=>?_,H.2.2.1,H.2.2.2.1,Nat.lt_of_lt_of_le H.2.2.2.2.1 hu.size,H.2.2.2.2.2.1,H.2.2.2.2.2.2⟩
  · intro k v hk
    match k,hk with
    | 0,hk=>(simp only [List.getElem?_toArray,List.getElem?_cons_zero,List.getElem?_cons_succ,Option.some.injEq] at hk;subst hk;exact (set_miss u7 (show 7≠0 by decide) (set_miss u6 (show 6≠0 by decide) (set_miss u5 (show 5≠0 by decide) (set_miss u4 (show 4≠0 by decide) (set_miss u3 (show 3≠0 by decide) (set_miss u2 (show 2≠0 by decide) (set_miss u1 (show 1≠0 by decide) (set_hit u0 (H.1 0 _ (Array.getElem?_eq_getElem (i:=0) (by omega))))))))))))
    | 1,hk=>(simp only [List.getElem?_toArray,List.getElem?_cons_zero,List.getElem?_cons_succ,Option.some.injEq] at hk;subst hk;exact (set_miss u7 (show 7≠1 by decide) (set_miss u6 (show 6≠1 by decide) (set_miss u5 (show 5≠1 by decide) (set_miss u4 (show 4≠1 by decide) (set_miss u3 (show 3≠1 by decide) (set_miss u2 (show 2≠1 by decide) (set_hit u1 (set_miss u0 (show 0≠1 by decide) (H.1 1 _ (Array.getElem?_eq_getElem (i:=1) (by omega))))))))))))
    | 2,hk=>(simp only [List.getElem?_toArray,List.getElem?_cons_zero,List.getElem?_cons_succ,Option.some.injEq] at hk;subst hk;exact (set_miss u7 (show 7≠2 by decide) (set_miss u6 (show 6≠2 by decide) (set_miss u5 (show 5≠2 by decide) (set_miss u4 (show 4≠2 by decide) (set_miss u3 (show 3≠2 by decide) (set_hit u2 (set_miss u1 (show 1≠2 by decide) (set_miss u0 (show 0≠2 by decide) (H.1 2 _ (Array.getElem?_eq_getElem (i:=2) (by omega))))))))))))
    | 3,hk=>(simp only [List.getElem?_toArray,List.getElem?_cons_zero,List.getElem?_cons_succ,Option.some.injEq] at hk;subst hk;exact (set_miss u7 (show 7≠3 by decide) (set_miss u6 (show 6≠3 by decide) (set_miss u5 (show 5≠3 by decide) (set_miss u4 (show 4≠3 by decide) (set_hit u3 (set_miss u2 (show 2≠3 by decide) (set_miss u1 (show 1≠3 by decide) (set_miss u0 (show 0≠3 by decide) (H.1 3 _ (Array.getElem?_eq_getElem (i:=3) (by omega))))))))))))
    | 4,hk=>(simp only [List.getElem?_toArray,List.getElem?_cons_zero,List.getElem?_cons_succ,Option.some.injEq] at hk;subst hk;exact (set_miss u7 (show 7≠4 by decide) (set_miss u6 (show 6≠4 by decide) (set_miss u5 (show 5≠4 by decide) (set_hit u4 (set_miss u3 (show 3≠4 by decide) (set_miss u2 (show 2≠4 by decide) (set_miss u1 (show 1≠4 by decide) (set_miss u0 (show 0≠4 by decide) (H.1 4 _ (Array.getElem?_eq_getElem (i:=4) (by omega))))))))))))
    | 5,hk=>(simp only [List.getElem?_toArray,List.getElem?_cons_zero,List.getElem?_cons_succ,Option.some.injEq] at hk;subst hk;exact (set_miss u7 (show 7≠5 by decide) (set_miss u6 (show 6≠5 by decide) (set_hit u5 (set_miss u4 (show 4≠5 by decide) (set_miss u3 (show 3≠5 by decide) (set_miss u2 (show 2≠5 by decide) (set_miss u1 (show 1≠5 by decide) (set_miss u0 (show 0≠5 by decide) (H.1 5 _ (Array.getElem?_eq_getElem (i:=5) (by omega))))))))))))
    | 6,hk=>(simp only [List.getElem?_toArray,List.getElem?_cons_zero,List.getElem?_cons_succ,Option.some.injEq] at hk;subst hk;exact (set_miss u7 (show 7≠6 by decide) (set_hit u6 (set_miss u5 (show 5≠6 by decide) (set_miss u4 (show 4≠6 by decide) (set_miss u3 (show 3≠6 by decide) (set_miss u2 (show 2≠6 by decide) (set_miss u1 (show 1≠6 by decide) (set_miss u0 (show 0≠6 by decide) (H.1 6 _ (Array.getElem?_eq_getElem (i:=6) (by omega))))))))))))
    | 7,hk=>(simp only [List.getElem?_toArray,List.getElem?_cons_zero,List.getElem?_cons_succ,Option.some.injEq] at hk;subst hk;exact (set_hit u7 (set_miss u6 (show 6≠7 by decide) (set_miss u5 (show 5≠7 by decide) (set_miss u4 (show 4≠7 by decide) (set_miss u3 (show 3≠7 by decide) (set_miss u2 (show 2≠7 by decide) (set_miss u1 (show 1≠7 by decide) (set_miss u0 (show 0≠7 by decide) (H.1 7 _ (Array.getElem?_eq_getElem (i:=7) (by omega))))))))))))
    | k+8,hk=>simp at hk
  · have:=H.2.1 o
    simpa using this
theorem RS.set1 {W w:World} {b:Nat} {A:Option Addr} {n c m g off ca:Nat} {ps:List Pose} {Al:Option Addr} {cl:Nat} {l:List Factor} {ii jj:Nat} {p q:Pose} {cs:Array Value} {wr:World} {z:Nat} (h:RS W w b A n c m g off ca ps Al cl l ii jj p q cs (some z) wr) (k:Nat) (u:Value):RS W w b A n c m g off ca ps Al cl l ii jj p q (cs.setIfInBounds k u) (some z) (wr.setCell ⟨z,k,none⟩ u):=by
  have H:=h.box z rfl
  have hg:=(h.st.at_.lt g rfl)
  have hu:Upd [z] wr (wr.setCell ⟨z,k,none⟩ u):=(Upd.refl [z] wr).set_in (by simp) u
  have B:∀ (o:Nat) {v:Value},wr.cell? ⟨g,o,none⟩=some v→(wr.setCell ⟨z,k,none⟩ u).cell? ⟨g,o,none⟩=some v:=fun o v hh=>(uBox hu g hg.2 (by have:=H.2.2.2.2.2.1;simpa using this) o).trans hh
  refine ⟨h.st.set_ (p:=⟨z,k,none⟩) H.2.2.1 H.2.2.2.1 (fun e=>H.2.2.2.2.2.1 (Option.some.inj e)) H.2.2.2.2.2.2 u,⟨B _ h.k.1,B _ h.k.2.1,B _ h.k.2.2.1,B _ h.k.2.2.2.1,B _ h.k.2.2.2.2.1,B _ h.k.2.2.2.2.2⟩,?_⟩
  intro z' hz'
  cases hz'
  refine ⟨?_,fun o=>?_,H.2.2.1,H.2.2.2.1,Nat.lt_of_lt_of_le H.2.2.2.2.1 hu.size,H.2.2.2.2.2.1,H.2.2.2.2.2.2⟩
  · intro j v hj
    by_cases e:k=j
    · subst e
      by_cases hk:k < cs.size
      · rw [Array.getElem?_setIfInBounds_self_of_lt hk] at hj
        cases hj
        exact set_hit u (H.1 k _ (Array.getElem?_eq_getElem hk))
      · rw [Array.getElem?_eq_none (by simp;omega)] at hj
        cases hj
    · rw [Array.getElem?_setIfInBounds_ne e] at hj
      exact set_miss u e (H.1 j v hj)
  · have:=H.2.1 o
    simpa using this
theorem RS.none_cs {W w:World} {b:Nat} {A:Option Addr} {n c m g off ca:Nat} {ps:List Pose} {Al:Option Addr} {cl:Nat} {l:List Factor} {ii jj:Nat} {p q:Pose} {cs:Array Value} {wr:World} (h:RS W w b A n c m g off ca ps Al cl l ii jj p q cs none wr) (cs':Array Value):RS W w b A n c m g off ca ps Al cl l ii jj p q cs' none wr:=⟨h.st,h.k,fun z hz=>by cases hz⟩
theorem RS.same {W w:World} {b:Nat} {A:Option Addr} {n c m g off ca:Nat} {ps:List Pose} {Al:Option Addr} {cl:Nat} {l:List Factor} {ii jj:Nat} {p q:Pose} {cs:Array Value} {fz:Option Nat} {wr wr':World} (h:RS W w b A n c m g off ca ps Al cl l ii jj p q cs fz wr) (hlt:b < w.heap.size) (hc:Cur W wr' b A n c) (hu:Upd [b] wr wr'):RS W w b A n c m g off ca ps Al cl l ii jj p q cs fz wr' :=
  have h1:=h.st.at_.lt g rfl
  have B:∀ (o:Nat) {v:Value},wr.cell? ⟨g,o,none⟩=some v→wr'.cell? ⟨g,o,none⟩=some v:=fun o v hh=>(uBox hu g h1.2 (by simp;omega) o).trans hh
  ⟨h.st.same hlt hc hu,⟨B _ h.k.1,B _ h.k.2.1,B _ h.k.2.2.1,B _ h.k.2.2.2.1,B _ h.k.2.2.2.2.1,B _ h.k.2.2.2.2.2⟩,fun z hz =>
    have H:=h.box z hz
    have hzb:z ∉ [b]:=by have:=H.2.2.1;simp;omega
    ⟨fun k v hk=>(uBox hu z H.2.2.2.2.1 hzb k).trans (H.1 k v hk),fun o=>(uBoxF hu z H.2.2.2.2.1 hzb o).trans (H.2.1 o),H.2.2.1,H.2.2.2.1,Nat.lt_of_lt_of_le H.2.2.2.2.1 hu.size,H.2.2.2.2.2.1,H.2.2.2.2.2.2⟩⟩
theorem l16List_c {W w:World} {b:Nat} {A:Option Addr} {n c:Nat} (hy:Bytes W A n) (hn:n≤4194304) (h:Cur W w b A n c) :
    Calls Tryz.prog 31 #[.pointer (some ⟨b,0,none⟩)] w fun e w'=>∃ (v:Sv) (l:List Factor),e=.returned (.slice v.A v.n v.c)∧l.length≤8∧GOK l∧Own w' w.heap.size 34 8 v.A v.n v.c (l.map Factor.cells)∧Cur W w' b A n c∧Upd [b] w w':=by
  obtain ⟨i0,hi,hz0,hz1,hz2⟩:=info_parts info_Factor
  obtain ⟨j0,hj,hy0',hy1',hy2'⟩:=info_parts info_Pose
  have hlt:=h.lt
  have HWW:=Lib.hid h.hB
  have HbW:=Lib.hid h.hb
  have hy':=Lib.hid hy
  have HC:=Lib.hid h
  clear h hy
  go_enter Tryz.func31,Tryz.ntmps31
  go_wp2_with fail
  refine Calls.mono (l05Draw_c hy'.out hn HC.out) ?_
  rintro e w1 ⟨t,x,y,rfl,hp,hc1,hu1⟩
  have z1:w.heap.size≤w1.heap.size:=hu1.size
  have HC1:=Lib.hid (hc1.alloc_ (.cells #[.int .i64 t,.int .i64 x,.int .i64 y] 32))
  have HP:=Lib.hid hp
  clear HC hc1 hp
  go_wp2_with fail
  refine region_at fun R hR=>?_
  have hwb:R=w1.alloc (.cells #[.int .i64 t,.int .i64 x,.int .i64 y] 32):=hR
  have g0:R.cell? ⟨w1.heap.size,0,none⟩=some (.int .i64 t):=by rw [hwb];exact cells_b rfl
  have g1:R.cell? ⟨w1.heap.size,1,none⟩=some (.int .i64 x):=by rw [hwb];exact cells_b rfl
  have g2:R.cell? ⟨w1.heap.size,2,none⟩=some (.int .i64 y):=by rw [hwb];exact cells_b rfl
  have HCR:Hid (Cur W R b A n c):=by rw [hwb];exact HC1.out
  have hoa:Own R w.heap.size 32 3 (some ⟨w1.heap.size,0,none⟩) 1 1 [poseCells ⟨t,x,y⟩]:=by
    rw [hwb]
    exact (Own.box (cs:=poseCells ⟨t,x,y⟩) (heap_alloc_new w1 _) rfl).from_ (fun q hq=>by simp [obl,ob] at hq;omega)
  have huR:Upd [b] w R:=by rw [hwb];exact hu1.alloc_ _
  clear hR hwb HC1 hu1
  go_region_held3 (fun w'=>w'.cell? ⟨w1.heap.size,0,none⟩=some (.int .i64 t)∧w'.cell? ⟨w1.heap.size,1,none⟩=some (.int .i64 x)∧w'.cell? ⟨w1.heap.size,2,none⟩=some (.int .i64 y))
    (first | go_keep | exact ⟨(uBox hu3 w1.heap.size (cell_lt g0) (by simp;omega) _).trans g0,(uBox hu3 w1.heap.size (cell_lt g0) (by simp;omega) _).trans g1,(uBox hu3 w1.heap.size (cell_lt g0) (by simp;omega) _).trans g2⟩)
    (first | (go_at_call 79;refine (l01Below_c hy'.out hn (HCR.out.below (bDrew (Below.refl _ _))) 9 (by omega) (by omega)).mono ?_;rintro e w3 ⟨wt,rfl,hw0,hw1,hc3,hu3⟩;have hww:IntKind.i64.wrap (1+wt)=1+wt:=by rw [IntKind.wrap_i64];omega))
  have hwt:=inR_iff.2 (show 1≤1+wt∧1+wt≤9999 from ⟨by omega,by omega⟩)
  have st0:PSt W w (w3.alloc (.cells #[.int .i64 1,.int .i64 1,.string ⟨#[]⟩,.string ⟨#[112,48]⟩,.int .i64 t,.int .i64 x,.int .i64 y,.int .i64 (1+wt)] 34)) b A n c 0 (some ⟨w1.heap.size,0,none⟩) 1 [⟨t,x,y⟩] (some ⟨w3.heap.size,0,none⟩) 1 [⟨1,1,⟨#[]⟩,⟨#[112,48]⟩,⟨t,x,y⟩,1+wt⟩]:=by
    have z3:R.heap.size≤w3.heap.size:=hu3.size
    have z4:w1.heap.size < R.heap.size:=cell_lt g0
    refine ⟨hc3.alloc_ _,(huR.then_drew.trans hu3).alloc_ _,?_,?_,?_,?_,?_⟩
    · exact (Own.upd hoa ((Upd.refl [b] R).then_drew.trans hu3) (fun q hq hm=>by simp [obl,ob] at hq hm;omega)).alloc_ _
    · exact (Own.box (cs:=Factor.cells ⟨1,1,⟨#[]⟩,⟨#[112,48]⟩,⟨t,x,y⟩,1+wt⟩) (heap_alloc_new w3 _) rfl).from_ (fun q hq=>by simp [obl,ob] at hq;have:=huR.size;omega)
    · intro q hq hm
      simp [obl,ob] at hq hm
      omega
    · intro i p hp
      cases i with
      | zero=>simp at hp;subst hp;simpa using HP.out
      | succ i=>simp at hp
    · refine ⟨by simp,fun f hf=>?_,fun i f hf=>?_⟩
      · simp only [List.mem_singleton] at hf
        subst hf
        exact ⟨vld_prior rfl (HP.out.vld (by omega)) hwt (by decide +kernel),.inl rfl,.inr (.inl ⟨0,by omega,by rw [pnm_eq (by omega)];rfl⟩)⟩
      · cases i with
        | zero=>simp at hf;subst hf;rfl
        | succ i=>simp at hf
  have HC3:=Lib.hid st0.cur
  have ST0:=Lib.hid st0
  clear hc3 hu3 st0 hoa g0 g1 g2 HCR huR hww z1
  go_wp2_with fail
  refine Calls.mono (l01Below_c hy'.out hn HC3.out 4 (by omega) (by omega)) ?_
  rintro e w4 ⟨y2,rfl,hn0,hn1,hc4,hu4⟩
  have st4:=ST0.out.same hlt hc4 hu4
  clear ST0 HC3 hc4 hu4
  go_wp2_with fail
  go_loopw [3,4,6] (fun a q i wr=>∃ (m:Nat) (Aa:Option Addr) (ca:Nat) (ps:List Pose) (Al:Option Addr) (cl:Nat) (l:List Factor),a=.slice Aa (m+1) ca∧q=.slice Al l.length cl∧i=.int .i64 ((m:Int)+1)∧l.length=m+1∧(m:Int)≤1+y2∧PSt W w wr b A n c m Aa ca ps Al cl l) (fun _ _ i _=>10 - (intOf i).toNat)
  case atStart=>exact ⟨0,_,_,_,_,_,_,rfl,rfl,rfl,rfl,by omega,st4⟩
  case round =>
    obtain ⟨m,Aa,ca,ps,Al,cl,l,rfl,rfl,rfl,hlm,hmy,hst⟩:=hrel
    have ST:=Lib.hid hst
    have HC5:=Lib.hid hst.cur
    clear hst st4
    by_cases hlt2:(m:Int)+1≤1+y2
    · go_wp2_with fail
      refine Calls.mono (l01Below_c hy'.out hn HC5.out 4 (by omega) (by omega)) ?_
      rintro e w5 ⟨st,rfl,ht0,ht1,hc5,hu5⟩
      have ST5:=Lib.hid (ST.out.same hlt hc5 hu5)
      have HC6:=Lib.hid hc5
      clear ST HC5 hc5 hu5
      go_wp2_with fail
      refine Calls.mono (l01Below_c hy'.out hn HC6.out 9 (by omega) (by omega)) ?_
      rintro e w6 ⟨sx,rfl,hx0,hx1,hc6,hu6⟩
      have ST6:=Lib.hid (ST5.out.same hlt hc6 hu6)
      have HC7:=Lib.hid hc6
      clear ST5 HC6 hc6 hu6
      go_wp2_with fail
      refine Calls.mono (l01Below_c hy'.out hn HC7.out 5 (by omega) (by omega)) ?_
      rintro e w7 ⟨sy,rfl,hs0,hs1,hc7,hu7⟩
      have ST7:=Lib.hid (ST6.out.same hlt hc7 hu7)
      clear ST6 HC7 hc7 hu7
      have z7:w.heap.size≤w7.heap.size:=ST7.out.upd.size
      obtain ⟨pm,g,off,hpm,hA,hcl⟩:=Row.at_ (l:=ps) (c:=poseCells) ST7.out.at_.row (Nat.lt_succ_self m)
      subst hA
      have hgz:g < w7.heap.size:=(ST7.out.at_.lt g rfl).2
      have a0:=hcl 0 _ rfl
      have a1:=hcl 1 _ rfl
      have a2:=hcl 2 _ rfl
      simp only [Nat.add_zero] at a0
      have hnm:=ST7.out.near m pm hpm.out
      have hm4:(m:Int)≤3:=by omega
      have hsn:nearP 8 st sx (sy - 2):=⟨by omega,by omega,by omega,by omega,by omega,by omega⟩
      have HNM:=Lib.hid hnm
      have HSN:=Lib.hid hsn
      clear hcl hnm hsn hpm
      go_wp2_with fail
      refine region_at fun R hR=>?_
      have hRe:R=w7.alloc (.cells #[.int .i64 st,.int .i64 sx,.int .i64 (sy - 2)] 32):=hR
      have ST8:Hid (PSt W w R b A n c m (some ⟨g,off,none⟩) ca ps Al cl l):=by rw [hRe];exact ST7.out.alloc_ _
      have s0:R.cell? ⟨w7.heap.size,0,none⟩=some (.int .i64 st):=by rw [hRe];exact cells_b rfl
      have s1:R.cell? ⟨w7.heap.size,1,none⟩=some (.int .i64 sx):=by rw [hRe];exact cells_b rfl
      have s2:R.cell? ⟨w7.heap.size,2,none⟩=some (.int .i64 (sy - 2)):=by rw [hRe];exact cells_b rfl
      have sf:∀ o,R.frozen? ⟨w7.heap.size,o,none⟩=false:=fun o=>by rw [hRe];exact frozen_a _ _ _ _
      have b0:R.cell? ⟨g,off+m * 3,none⟩=some (.int .i64 pm.turn):=by rw [hRe];exact bCell (bAlloc (Below.refl _ _) _) a0
      have b1:R.cell? ⟨g,off+m * 3+1,none⟩=some (.int .i64 pm.x):=by rw [hRe];exact bCell (bAlloc (Below.refl _ _) _) a1
      have b2:R.cell? ⟨g,off+m * 3+2,none⟩=some (.int .i64 pm.y):=by rw [hRe];exact bCell (bAlloc (Below.refl _ _) _) a2
      have sz:=cell_lt s0
      simp only at sz
      have hgX:¬ ob (some (⟨g,off,none⟩:Addr))=some w7.heap.size:=by simp [ob];omega
      have hlX:¬ ob Al=some w7.heap.size:=fun e=>by have:=(ST7.out.fl.lt _ e).2;omega
      have hXw:w.heap.size≤w7.heap.size:=z7
      clear hR hRe a0 a1 a2 ST7
      generalize w7.heap.size=X at *
      have hm0:(0:Int)≤(m:Int):=by omega
      have hmm:(m:Int) < ((m+1:Nat):Int):=by omega
      have hmw:IntKind.i64.wrap ((m:Int)+1 - 1)=(m:Int):=by rw [IntKind.wrap_i64];omega
      have hmw2:IntKind.i64.wrap (m:Int)=(m:Int):=by rw [IntKind.wrap_i64];omega
      have hmm2:(m:Int) < (m:Int)+1:=by omega
      go_region_law (first
        | (refine step_append rfl (.tmp 39) (.tmp 47) 114 rfl w.heap.size 32 3 24 j0 _ Tryz.underlying114 hj hy0' hy1' hy2' rfl (by omega) (some ⟨g,off,none⟩) (m+1) ca _ rfl (st8.at_.alloc_ _) _ 1 1 [poseCells ⟨ct,cx,cy⟩] rfl (Row.new1' _ _ _ 3 _ (by simp)) (by simp [poseCells]) (by simp [poseCells,Value.oneCell']) (by simp only [maxLen];omega) (by omega) (by have:=st8.upd.size;simp;omega) ?_;intro A9 c9 w9 ho9 hg9 hat9)
        | (go_simp;go_at_call 80;refine (Compose_c (20+8 * (m:Int)) 8 _ _ _ _ _ _ HNM.out HSN.out (by omega) (by omega) _).mono ?_;rintro e w8 ⟨ct,cx,cy,rfl,hcp,hb8⟩;have st8:=ST8.out.below (bTrans (bDrew (Below.refl _ _)) hb8);have t0:=bCell hb8 (show R.drew.cell? _ = _ from s0);have t1:=bCell hb8 (show R.drew.cell? _ = _ from s1);have t2:=bCell hb8 (show R.drew.cell? _ = _ from s2);have tf:∀ o,w8.frozen? ⟨X,o,none⟩=false:=(fun o=>(bBoxF hb8 X sz o).trans (sf o));have tz:X < w8.heap.size:=cell_lt t0))
      all_goals
        have hnx:nearP (20+8 * ((m+1:Nat):Int)) ct cx cy:=by
          have e:20+8 * ((m+1:Nat):Int)=20+8 * (m:Int)+8:=by omega
          rw [e];exact hcp
        have ST9:=Lib.hid (st8.pushP (p:=⟨ct,cx,cy⟩) hlt HWW.out HbW.out hg9 ho9 hat9 hnx)
        have v0:=World.grownBy.cell hg9 (bCell (bAlloc (Below.refl _ _) _) t0) (fun e=>hgX e.symm)
        have v1:=World.grownBy.cell hg9 (bCell (bAlloc (Below.refl _ _) _) t1) (fun e=>hgX e.symm)
        have v2:=World.grownBy.cell hg9 (bCell (bAlloc (Below.refl _ _) _) t2) (fun e=>hgX e.symm)
        have vf:∀ o,w9.frozen? ⟨X,o,none⟩=false:=fun o=>(gBoxF hg9 X (by simp;omega) (fun q hq e=>hgX (e ▸ hq)) o).trans (frozen_al tz (tf o))
        have vz:X < w9.heap.size:=cell_lt v0
        have h9X:¬ ob A9=some X:=fun e=>by
          rcases hat9 with h1 | h1
          · exact hgX (h1 ▸ e)
          · rw [h1] at e;have:=Option.some.inj e;simp at this;omega
        clear hnx hg9 ho9 t0 t1 t2 tf st8 hcp hb8 s0 s1 s2 sf b0 b1 b2 sz hat9
        go_wp2_with fail
        go_region_law (first
          | (go_simp;go_at_call 79;refine (l01Below_c hy'.out hn (ST9.out.cur.below (bDrew (Below.refl _ _))) 2 (by omega) (by omega)).mono ?_;rintro e w10 ⟨dx,rfl,hd0,hd1,hc10,hu10⟩;have st10:=ST9.out.same hlt hc10 ((Upd.refl [b] w9).then_drew.trans hu10);have x0:=(uBox hu10 X vz (by simp;omega) 0).trans v0;have x1:=(uBox hu10 X vz (by simp;omega) 1).trans v1;have x2:=(uBox hu10 X vz (by simp;omega) 2).trans v2;have xf:∀ o,w10.frozen? ⟨X,o,none⟩=false:=(fun o=>(uBoxF hu10 X vz (by simp;omega) o).trans (vf o));have hwx:IntKind.i64.wrap (sx+dx)=sx+dx:=(by rw [IntKind.wrap_i64];omega)))
        all_goals
          have ST10:=Lib.hid (st10.set_ (p:=⟨X,1,none⟩) (Nat.lt_of_lt_of_le hlt hXw) hXw h9X hlX (.int .i64 (sx+dx)))
          have hzm:=itoaB_size (n:=(m:Int)) (by omega) (by omega)
          have hzm1:=itoaB_size (n:=(m:Int)+1) (by omega) (by omega)
          have hcA:=fun W=>catOk (a:=⟨#[112]⟩) (b:=itoaB (m:Int)) (by show 1+_≤_;omega) W
          have hcB:=fun W=>catOk (a:=⟨#[112]⟩) (b:=itoaB ((m:Int)+1)) (by show 1+_≤_;omega) W
          rw [show (⟨#[112]⟩++itoaB (m:Int))=pnm m from rfl] at hcA
          rw [show (⟨#[112]⟩++itoaB ((m:Int)+1))=pnm (m+1) from rfl] at hcB
          have hvx:vldPose st (sx+dx) (sy - 2)=true:=nearP.vld (M:=20) ⟨by omega,by omega,by omega,by omega,by omega,by omega⟩ (by omega)
          have HVX:=Lib.hid hvx
          have hwid:IntKind.i64.wrap ((m:Int)+1+1)=(m:Int)+1+1:=by rw [IntKind.wrap_i64];omega
          have e0:(w10.setCell ⟨X,1,none⟩ (.int .i64 (sx+dx))).cell? ⟨X,0,none⟩=some (.int .i64 st):=by go_simp
          have e1:(w10.setCell ⟨X,1,none⟩ (.int .i64 (sx+dx))).cell? ⟨X,1,none⟩=some (.int .i64 (sx+dx)):=by go_simp
          have e2:(w10.setCell ⟨X,1,none⟩ (.int .i64 (sx+dx))).cell? ⟨X,2,none⟩=some (.int .i64 (sy - 2)):=by go_simp
          clear hvx x0 x1 x2 xf v0 v1 v2 vf vz hwx hc10 hu10 st10 ST9 hzm hzm1
          go_wp2_with fail
          refine region_at fun R2 hR2=>?_
          rw [← hR2.out] at ST10 e0 e1 e2
          have ez:=cell_lt e0
          simp only at ez
          generalize hP0:pnm m=P0 at hcA
          generalize hP1:pnm (m+1)=P1 at hcB
          clear hR2
          go_region_held3 (fun w'=>w'.cell? ⟨X,0,none⟩=some (.int .i64 st)∧w'.cell? ⟨X,1,none⟩=some (.int .i64 (sx+dx))∧w'.cell? ⟨X,2,none⟩=some (.int .i64 (sy - 2)))
            (first | go_keep | exact ⟨k0,k1,k2⟩)
            (first
              | (refine step_append rfl (.tmp 55) (.tmp 71) 23 rfl w.heap.size 34 8 80 i0 _ Tryz.underlying23 hi hz0 hz1 hz2 rfl (by omega) Al (m+1) cl _ rfl ((hlm ▸ st13.fl).alloc_ _) _ 1 1 [Factor.cells ⟨(m:Int)+1+1,2,P0,P1,⟨st,sx+dx,sy - 2⟩,1+wt2⟩] rfl (Row.new1' _ _ _ 8 _ (by simp)) (by simp [Factor.cells]) (by simp [Factor.cells,Value.oneCell']) (by simp only [maxLen];omega) (by omega) (by have:=st13.upd.size;simp;omega) ?_;intro A14 c14 w14 ho14 hg14 hat14;have k0:=World.grownBy.cell hg14 (bCell (bAlloc (Below.refl _ _) _) k0) (fun e=>hlX e.symm);have k1:=World.grownBy.cell hg14 (bCell (bAlloc (Below.refl _ _) _) k1) (fun e=>hlX e.symm);have k2:=World.grownBy.cell hg14 (bCell (bAlloc (Below.refl _ _) _) k2) (fun e=>hlX e.symm))
              | (go_at_call 81;refine (spec_FormatInt_c _ _ (by omega) (by omega)).mono ?_;rintro e wf ⟨rfl,hbf⟩;first | (have st13:=st13.below hbf;have k0:=bCell hbf k0;have k1:=bCell hbf k1;have k2:=bCell hbf k2) | (have st13:=ST10.out.below (bTrans (bDrew (Below.refl _ _)) hbf);have k0:=bCell hbf (show R2.drew.cell? _ = _ from e0);have k1:=bCell hbf (show R2.drew.cell? _ = _ from e1);have k2:=bCell hbf (show R2.drew.cell? _ = _ from e2)))
              | (go_at_call 79;refine (l01Below_c hy'.out hn st13.cur 9 (by omega) (by omega)).mono ?_;rintro e w13 ⟨wt2,rfl,hq0,hq1,hc13,hu13⟩;have st13:=st13.same hlt hc13 hu13;have k0:=(uBox hu13 X (cell_lt k0) (by simp;omega) 0).trans k0;have k1:=(uBox hu13 X (cell_lt k1) (by simp;omega) 1).trans k1;have k2:=(uBox hu13 X (cell_lt k2) (by simp;omega) 2).trans k2;have hww:IntKind.i64.wrap (1+wt2)=1+wt2:=(by rw [IntKind.wrap_i64];omega)))
          have hFOK:FOK ⟨(m:Int)+1+1,2,P0,P1,⟨st,sx+dx,sy - 2⟩,1+wt2⟩:=by
            subst hP0;subst hP1
            exact ⟨vld_two (by omega) (inR_iff.2 ⟨by omega,by omega⟩) HVX.out (inR_iff.2 ⟨by omega,by omega⟩) (pnm_pose (by omega)) (pnm_pose (by omega)) (pnm_ne' (by omega) (by omega) (by omega)),.inr (.inl ⟨m,by omega,rfl⟩),.inr (.inl ⟨m+1,by omega,rfl⟩)⟩
          have ST14:=Lib.hid (st13.pushF hlt HWW.out HbW.out hg14 (by rw [hlm];exact ho14) hat14 ⟨hFOK,by rw [hlm];push_cast;rfl⟩)
          clear hFOK hg14 ho14 hat14 st13 hc13 hu13 k0 k1 k2 e0 e1 e2
          go_wp2_with fail
          exact ⟨⟨m+1,A9,c9,_,A14,c14,_,rfl,by simp [hlm],by simp,by simp [hlm],by simp;omega,ST14.out⟩,by simp only [intOf];omega⟩
    · have hmN:(m:Int)=1+y2:=by omega
      go_wp2_with fail
      refine Calls.mono (l01Below_c hy'.out hn HC5.out 4 (by omega) (by omega)) ?_
      rintro e w5 ⟨y3,rfl,hk0,hk1,hc5,hu5⟩
      have st5:=ST.out.same hlt hc5 hu5
      clear ST HC5 hc5 hu5
      go_wp2_with fail
      go_loopw [4,8] (fun q i wr=>∃ (k:Nat) (Al:Option Addr) (cl:Nat) (l:List Factor),q=.slice Al l.length cl∧i=.int .i64 (k:Int)∧l.length+k≤8∧PSt W w wr b A n c m Aa ca ps Al cl l) (fun _ i _=>(intOf i).toNat)
      case atStart=>exact ⟨y3.toNat,Al,cl,l,by rw [hlm],by simp;omega,by omega,st5⟩
      case round =>
        obtain ⟨k,Al,cl,l,rfl,rfl,hlk,hst⟩:=hrel
        have ST6:=Lib.hid hst
        have HC6:=Lib.hid hst.cur
        clear hst st5
        by_cases hlt3:0 < k
        · have hi1:(0:Int) < (k:Int):=by omega
          have hll:l.length≤7:=by omega
          have hmN4:m≤4:=by omega
          go_wp2_with fail
          refine Calls.mono (l01Below_c hy'.out hn HC6.out (1+y2+1) (by omega) (by omega)) ?_
          rintro e w6 ⟨iI,rfl,hi0,hiN,hc6,hu6⟩
          have ST7:=Lib.hid (ST6.out.same hlt hc6 hu6)
          have HC7:=Lib.hid hc6
          clear ST6 HC6 hc6 hu6
          go_wp2_with fail
          refine Calls.mono (l01Below_c hy'.out hn HC7.out (1+y2+1) (by omega) (by omega)) ?_
          rintro e w7 ⟨jI,rfl,hj0,hjN,hc7,hu7⟩
          have ST8:=Lib.hid (ST7.out.same hlt hc7 hu7)
          clear ST7 HC7 hc7 hu7
          obtain ⟨ii,rfl⟩:=Int.eq_ofNat_of_zero_le hi0
          obtain ⟨jj,rfl⟩:=Int.eq_ofNat_of_zero_le hj0
          have hii:ii < m+1:=by omega
          have hjj:jj < m+1:=by omega
          obtain ⟨pi,g,off,hpi,hA,hcl⟩:=Row.at_ (l:=ps) (c:=poseCells) ST8.out.at_.row hii
          obtain ⟨pj,g2,off2,hpj,hA2,hcl2⟩:=Row.at_ (l:=ps) (c:=poseCells) ST8.out.at_.row hjj
          rw [hA] at hA2
          simp only [Option.some.injEq,Addr.mk.injEq,and_true] at hA2
          obtain ⟨rfl,rfl⟩:=hA2
          subst hA
          have hgz:g < w7.heap.size:=(ST8.out.at_.lt g rfl).2
          have a0:=hcl 0 _ rfl
          have a1:=hcl 1 _ rfl
          have a2:=hcl 2 _ rfl
          have a3:=hcl2 0 _ rfl
          have a4:=hcl2 1 _ rfl
          have a5:=hcl2 2 _ rfl
          simp only [Nat.add_zero] at a0 a3
          have HNI:=Lib.hid (ST8.out.near ii pi hpi.out)
          have HNJ:=Lib.hid (ST8.out.near jj pj hpj.out)
          clear hcl hcl2 hpi hpj
          go_wp2_with fail
          refine region_at fun R hR=>?_
          rw [← hR.out] at ST8 a0 a1 a2 a3 a4 a5
          have hi2:(0:Int)≤(ii:Int):=by omega
          have hi3:(ii:Int) < ((m+1:Nat):Int):=by omega
          have hi4:(ii:Int) < (m:Int)+1:=by omega
          have hj2:(0:Int)≤(jj:Int):=by omega
          have hj3:(jj:Int) < ((m+1:Nat):Int):=by omega
          have hj4:(jj:Int) < (m:Int)+1:=by omega
          have hzi:=itoaB_size (n:=(ii:Int)) (by omega) (by omega)
          have hzj:=itoaB_size (n:=(jj:Int)) (by omega) (by omega)
          have hcI:=fun W=>catOk (a:=⟨#[112]⟩) (b:=itoaB (ii:Int)) (by show 1+_≤_;omega) W
          have hcJ:=fun W=>catOk (a:=⟨#[112]⟩) (b:=itoaB (jj:Int)) (by show 1+_≤_;omega) W
          rw [show (⟨#[112]⟩++itoaB (ii:Int))=pnm ii from rfl] at hcI
          rw [show (⟨#[112]⟩++itoaB (jj:Int))=pnm jj from rfl] at hcJ
          have hwid:IntKind.i64.wrap ((l.length:Int)+1)=(l.length:Int)+1:=by rw [IntKind.wrap_i64];omega
          clear hR hzi hzj
          generalize hPI:pnm ii=PI at hcI
          generalize hPJ:pnm jj=PJ at hcJ
          have RS0:RS W w b A n c m g off ca ps Al cl l ii jj pi pj #[.int .i64 0,.int .i64 0,.string ⟨#[]⟩,.string ⟨#[]⟩,.int .i64 0,.int .i64 0,.int .i64 0,.int .i64 0] none R:=⟨ST8.out,⟨a0,a1,a2,a3,a4,a5⟩,fun z hz=>by cases hz⟩
          have rs:=RS0.below _ (bDrew (Below.refl _ _))
          have gz:=(rs.st.at_.lt g rfl).2
          have gnz:¬ g=R.drew.heap.size:=(by omega)
          have hc8:(#[.int .i64 0,.int .i64 0,.string ⟨#[]⟩,.string ⟨#[]⟩,.int .i64 0,.int .i64 0,.int .i64 0,.int .i64 0]:Array Value).size=8:=rfl
          have h9:=fun (wr:World) (h:Cur W wr b A n c)=>l01Below_c hy'.out hn h 9 (by omega) (by omega)
          go_cut [11] (fun s wr=>∃ (z:Nat) (bt bx bY wt2:Int),s=.pointer (some ⟨z,0,none⟩)∧0≤wt2∧wt2 < 9∧nearP (20+8 * (ii:Int)+(20+8 * (jj:Int))) bt bx bY∧RS W w b A n c m g off ca ps Al cl l ii jj pi pj #[.int .i64 ((l.length:Int)+1),.int .i64 4,.string PI,.string PJ,.int .i64 bt,.int .i64 bx,.int .i64 bY,.int .i64 (1+wt2)] (some z) wr)
          case first =>
           go_region_held3 (fun w'=>w'.cell? ⟨g,off+ii * 3,none⟩=some (.int .i64 pi.turn)∧w'.cell? ⟨g,off+ii * 3+1,none⟩=some (.int .i64 pi.x)∧w'.cell? ⟨g,off+ii * 3+2,none⟩=some (.int .i64 pi.y)∧w'.cell? ⟨g,off+jj * 3,none⟩=some (.int .i64 pj.turn)∧w'.cell? ⟨g,off+jj * 3+1,none⟩=some (.int .i64 pj.x)∧w'.cell? ⟨g,off+jj * 3+2,none⟩=some (.int .i64 pj.y))
             (first | (with_reducible exact rs.k) | (with_reducible exact rs.kalloc _) | (with_reducible exact (rs.set8 hc8 _ _ _ _ _ _ _ _).k) | (refine ⟨?_,?_,?_,?_,?_,?_⟩ <;> go_keep) | go_keep)
             (first
              | (go_at_call 82;refine (Between_c (20+8 * (ii:Int)) (20+8 * (jj:Int)) _ _ _ _ _ _ HNI.out HNJ.out (by omega) (by omega) _).mono ?_;rintro e wb ⟨bt,bx,bY,rfl,hbp,hbb⟩;(first | (with_reducible have rs:=rs.below _ hbb) | (with_reducible have rs:=(RS.allocF rs).below _ hbb));(first | (obtain ⟨zz,zf,zb,zw,zl,zg,zA⟩:=rs.box _ rfl;have z0:=zz 0 _ rfl;have z1:=zz 1 _ rfl;have z2:=zz 2 _ rfl;have z3:=zz 3 _ rfl;have z4:=zz 4 _ rfl;have z5:=zz 5 _ rfl;have z6:=zz 6 _ rfl;have z7:=zz 7 _ rfl;clear zz) | skip);have gz:=(rs.st.at_.lt g rfl).2;have gnz:¬ g=wb.heap.size:=(by omega))
              | (go_at_call 79;with_reducible refine (h9 _ rs.st.cur).mono ?_;rintro e w13 ⟨wt2,rfl,hq0,hq1,hc13,hu13⟩;have hww:IntKind.i64.wrap (1+wt2)=1+wt2:=(by rw [IntKind.wrap_i64];omega);have rs:=rs.same hlt hc13 hu13;(first | (obtain ⟨zz,zf,zb,zw,zl,zg,zA⟩:=rs.box _ rfl;have z0:=zz 0 _ rfl;have z1:=zz 1 _ rfl;have z2:=zz 2 _ rfl;have z3:=zz 3 _ rfl;have z4:=zz 4 _ rfl;have z5:=zz 5 _ rfl;have z6:=zz 6 _ rfl;have z7:=zz 7 _ rfl;clear zz) | skip);have gz:=(rs.st.at_.lt g rfl).2;have gnz:¬ g=w13.heap.size:=(by omega))
              | (go_at_call 79;with_reducible refine (h9 _ (RS.allocF rs).st.cur).mono ?_;rintro e w13 ⟨wt2,rfl,hq0,hq1,hc13,hu13⟩;have hww:IntKind.i64.wrap (1+wt2)=1+wt2:=(by rw [IntKind.wrap_i64];omega);have rs:=(RS.allocF rs).same hlt hc13 hu13;(first | (obtain ⟨zz,zf,zb,zw,zl,zg,zA⟩:=rs.box _ rfl;have z0:=zz 0 _ rfl;have z1:=zz 1 _ rfl;have z2:=zz 2 _ rfl;have z3:=zz 3 _ rfl;have z4:=zz 4 _ rfl;have z5:=zz 5 _ rfl;have z6:=zz 6 _ rfl;have z7:=zz 7 _ rfl;clear zz) | skip);have gz:=(rs.st.at_.lt g rfl).2;have gnz:¬ g=w13.heap.size:=(by omega))
              | (go_at_call 81;refine (spec_FormatInt_c _ _ (by omega) (by omega)).mono ?_;rintro e wf ⟨rfl,hbf⟩;(first | (with_reducible have rs:=rs.below _ hbf) | (with_reducible have rs:=(RS.allocF rs).below _ hbf) | (with_reducible have rs:=((RS.allocF RS0).below _ (bDrew (Below.refl _ _))).below _ hbf) | fail);(first | (obtain ⟨zz,zf,zb,zw,zl,zg,zA⟩:=rs.box _ rfl;have z0:=zz 0 _ rfl;have z1:=zz 1 _ rfl;have z2:=zz 2 _ rfl;have z3:=zz 3 _ rfl;have z4:=zz 4 _ rfl;have z5:=zz 5 _ rfl;have z6:=zz 6 _ rfl;have z7:=zz 7 _ rfl;clear zz) | skip);have gz:=(rs.st.at_.lt g rfl).2;have gnz:¬ g=wf.heap.size:=(by omega)))
           all_goals go_wp2_with fail
           all_goals go_meet
           all_goals (refine ⟨_,_,_,_,_,rfl,hq0,hq1,hbp,?_⟩;first | (with_reducible exact rs.set8 hc8 _ _ _ _ _ _ _ _) | (with_reducible exact (rs.none_cs _).allocF))
          case rest =>
           obtain ⟨z,bt,bx,bY,wt2,rfl,hq0,hq1,hbp,rs⟩:=hcut
           clear RS0
           have hii2:ii≤4:=by omega
           have hjj2:jj≤4:=by omega
           have hfk:∀ o,wc.frozen? ⟨z,o,none⟩=false:=(rs.box z rfl).2.1
           have z0:wc.cell? ⟨z,0,none⟩=some (.int .i64 ((l.length:Int)+1)):=(rs.box z rfl).1 0 _ rfl;have z1:wc.cell? ⟨z,1,none⟩=some (.int .i64 4):=(rs.box z rfl).1 1 _ rfl;have z2:wc.cell? ⟨z,2,none⟩=some (.string PI):=(rs.box z rfl).1 2 _ rfl;have z3:wc.cell? ⟨z,3,none⟩=some (.string PJ):=(rs.box z rfl).1 3 _ rfl;have z4:wc.cell? ⟨z,4,none⟩=some (.int .i64 bt):=(rs.box z rfl).1 4 _ rfl;have z5:wc.cell? ⟨z,5,none⟩=some (.int .i64 bx):=(rs.box z rfl).1 5 _ rfl;have z6:wc.cell? ⟨z,6,none⟩=some (.int .i64 bY):=(rs.box z rfl).1 6 _ rfl;have z7:wc.cell? ⟨z,7,none⟩=some (.int .i64 (1+wt2)):=(rs.box z rfl).1 7 _ rfl
           go_upto_if 111 with (fail)
           go_cut [11] (fun s wr=>∃ f:Factor,FOKi l f∧s=.pointer (some ⟨z,0,none⟩)∧RS W w b A n c m g off ca ps Al cl l ii jj pi pj f.cells.toArray (some z) wr)
           case first =>
             by_cases hij:ii=jj
             · subst hij
               have HR:=Lib.hid (rs.set1 1 (.int .i64 3))
               have hzm:=itoaB_size (n:=(ii:Int) % 2) (by omega) (by omega)
               have hcM:=fun W=>catOk (a:=⟨#[109]⟩) (b:=itoaB ((ii:Int) % 2)) (by show 1+_≤_;omega) W
               rw [show (⟨#[109]⟩++itoaB ((ii:Int) % 2))=mnm (ii % 2) from congrArg (fun q=>(⟨#[109]⟩:ByteArray)++itoaB q) (show (ii:Int) % 2=((ii % 2:Nat):Int) by omega)] at hcM
               generalize hPM:mnm (ii % 2)=PM at hcM
               clear rs hzm
               go_wp2_with fail
               have hFI:=fun wr=>spec_FormatInt_c ((ii:Int) % 2) wr (by omega) (by omega)
               with_reducible refine Calls.mono (hFI _) ?_
               rintro e w20 ⟨rfl,hb20⟩
               with_reducible have HR1:=HR.out.below _ hb20
               have y3:=(HR1.box z rfl).1 3 _ rfl
               have yf:=(HR1.box z rfl).2.1
               have HR2:=Lib.hid (HR1.set1 3 (.string PM))
               clear HR HR1 hb20
               go_wp2_with fail
               refine Calls.mono (l01Below_c hy'.out hn HR2.out.st.cur 9 (by omega) (by omega)) ?_
               rintro e w21 ⟨xx,rfl,hx0,hx1,hc21,hu21⟩
               have HR3:=Lib.hid (HR2.out.same hlt hc21 hu21)
               clear HR2 hc21 hu21
               go_wp2_with fail
               refine Calls.mono (l01Below_c hy'.out hn HR3.out.st.cur 9 (by omega) (by omega)) ?_
               rintro e w22 ⟨yy,rfl,hy0,hy1,hc22,hu22⟩
               have HR4:=HR3.out.same hlt hc22 hu22
               have x4:=(HR4.box z rfl).1 4 _ rfl
               have x5:=(HR4.box z rfl).1 5 _ rfl
               have x6:=(HR4.box z rfl).1 6 _ rfl
               have xf:=(HR4.box z rfl).2.1
               have HR5:=Lib.hid (((HR4.set1 4 (.int .i64 0)).set1 5 (.int .i64 xx)).set1 6 (.int .i64 yy))
               clear HR3 HR4 hc22 hu22
               go_wp2_with fail
               go_meet
               case rel =>
                 subst hPI;subst hPM
                 exact ⟨⟨(l.length:Int)+1,3,pnm ii,mnm (ii % 2),⟨0,xx,yy⟩,1+wt2⟩,⟨⟨vld_land (inR_iff.2 ⟨by omega,by omega⟩) (nearP.vld (M:=9) ⟨by omega,by omega,by omega,by omega,by omega,by omega⟩ (by omega)) (inR_iff.2 ⟨by omega,by omega⟩) (pnm_pose (by omega)) (by rw [mnm_eq (by omega)];exact mnm_land ⟨ii % 2,by omega⟩),.inr (.inl ⟨ii,by omega,rfl⟩),.inr (.inr ⟨ii % 2,by omega,rfl⟩)⟩,rfl⟩,rfl,HR5.out⟩
             · have hij2:¬ (ii:Int)=(jj:Int):=by omega
               have hfB:∀ (X T:Int),0≤T→T≤3→-150≤X→X≤150→FOK ⟨(l.length:Int)+1,4,PI,PJ,⟨T,X,bY⟩,1+wt2⟩:=fun X T h1 h2 h3 h4=>by
                 obtain ⟨q1,q2,q3,q4,q5,q6⟩:=hbp
                 subst hPI;subst hPJ
                 exact ⟨vld_two (by omega) (inR_iff.2 ⟨by omega,by omega⟩) (nearP.vld (M:=150) ⟨h1,h2,h3,h4,by omega,by omega⟩ (by omega)) (inR_iff.2 ⟨by omega,by omega⟩) (pnm_pose (by omega)) (pnm_pose (by omega)) (pnm_ne' (by omega) (by omega) (by omega)),.inr (.inl ⟨ii,by omega,rfl⟩),.inr (.inl ⟨jj,by omega,rfl⟩)⟩
               have HF:=Lib.hid hfB
               have HR:=Lib.hid rs
               clear hfB rs
               go_wp2_with fail
               refine Calls.mono (l01Once_c hy'.out hn HR.out.st.cur 3 (by omega) (by omega)) ?_
               rintro e w20 ⟨o,rfl,hc20,hu20⟩
               have HR2:=Lib.hid (HR.out.same hlt hc20 hu20)
               clear HR hc20 hu20
               cases o with
               | true =>
                 have hbp':=hbp
                 obtain ⟨q1,q2,q3,q4,q5,q6⟩:=hbp'
                 have hw7:IntKind.i64.wrap (bx+7)=bx+7:=by rw [IntKind.wrap_i64];omega
                 have y5:=(HR2.out.box z rfl).1 5 _ rfl
                 have yz:z < w20.heap.size:=(HR2.out.box z rfl).2.2.2.2.1
                 have yb:¬ z=b:=by have:=(HR2.out.box z rfl).2.2.1;omega
                 go_wp2_with fail
                 go_region_law (first
                   | (go_simp;go_at_call 79;refine (l01Below_c hy'.out hn (HR2.out.st.cur.below (bDrew (Below.refl _ _))) 9 (by omega) (by omega)).mono ?_;rintro e w21 ⟨dx,rfl,hd0,hd1,hc21,hu21⟩;have rs2:=HR2.out.same hlt hc21 ((Upd.refl [b] w20).then_drew.trans hu21);have x5:=(rs2.box z rfl).1 5 _ rfl;have xf:=(rs2.box z rfl).2.1;have hwx:IntKind.i64.wrap (bx+7+dx)=bx+7+dx:=(by rw [IntKind.wrap_i64];omega)))
                 all_goals
                   have HR3:=Lib.hid (rs2.set1 5 (.int .i64 (bx+7+dx)))
                   clear rs2 HR2 hc21 hu21
                   go_wp2_with fail
                   go_meet
                   case rel=>exact ⟨_,⟨HF.out (bx+7+dx) bt hbp.1 hbp.2.1 (by omega) (by omega),rfl⟩,rfl,HR3.out⟩
               | false =>
                 go_wp2_with fail
                 refine Calls.mono (l01Once_c hy'.out hn HR2.out.st.cur 4 (by omega) (by omega)) ?_
                 rintro e w21 ⟨o,rfl,hc21,hu21⟩
                 have HR3:=Lib.hid (HR2.out.same hlt hc21 hu21)
                 clear HR2 hc21 hu21
                 cases o with
                 | true =>
                   go_wp2_with fail
                   refine Calls.mono (l01Below_c hy'.out hn HR3.out.st.cur 4 (by omega) (by omega)) ?_
                   rintro e w22 ⟨tt,rfl,ht0,ht1,hc22,hu22⟩
                   have HR4:=Lib.hid (HR3.out.same hlt hc22 hu22)
                   clear HR3 hc22 hu22
                   have HR5:=Lib.hid (HR4.out.set1 4 (.int .i64 tt))
                   obtain ⟨zz,zf,-⟩:=HR4.out.box z rfl
                   have z4:=zz 4 _ rfl
                   clear zz HR4
                   go_wp2_with fail
                   go_meet
                   case rel=>exact ⟨_,⟨HF.out bx tt ht0 (by omega) (by obtain ⟨q1,q2,q3,q4,q5,q6⟩:=hbp;omega) (by obtain ⟨q1,q2,q3,q4,q5,q6⟩:=hbp;omega),rfl⟩,rfl,HR5.out⟩
                 | false =>
                   go_wp2_with fail
                   go_meet
                   case rel=>exact ⟨_,⟨HF.out bx bt hbp.1 hbp.2.1 (by obtain ⟨q1,q2,q3,q4,q5,q6⟩:=hbp;omega) (by obtain ⟨q1,q2,q3,q4,q5,q6⟩:=hbp;omega),rfl⟩,rfl,HR3.out⟩
           case rest =>
             obtain ⟨f,hf,rfl,rs⟩:=hcut
             obtain ⟨zz,zf,zb,zw,zl,zg,zA⟩:=rs.box z rfl
             have z0:wc.cell? ⟨z,0,none⟩=some (.int .i64 f.id):=zz 0 _ rfl;have z1:wc.cell? ⟨z,1,none⟩=some (.int .i64 f.kind):=zz 1 _ rfl;have z2:wc.cell? ⟨z,2,none⟩=some (.string f.frm):=zz 2 _ rfl;have z3:wc.cell? ⟨z,3,none⟩=some (.string f.to):=zz 3 _ rfl;have z4:wc.cell? ⟨z,4,none⟩=some (.int .i64 f.pose.turn):=zz 4 _ rfl;have z5:wc.cell? ⟨z,5,none⟩=some (.int .i64 f.pose.x):=zz 5 _ rfl;have z6:wc.cell? ⟨z,6,none⟩=some (.int .i64 f.pose.y):=zz 6 _ rfl;have z7:wc.cell? ⟨z,7,none⟩=some (.int .i64 f.weight):=zz 7 _ rfl
             clear zz
             have hkw:IntKind.i64.wrap ((k:Int) - 1)=((k - 1:Nat):Int):=by rw [IntKind.wrap_i64];omega
             have RS':=Lib.hid rs
             clear rs
             have hsz25:=RS'.out.st.upd.size
             go_wp2_with (at_builtin;refine wpList_append rfl (.tmp 141) (.tmp 143) 23 rfl w.heap.size 34 8 80 i0 _ Tryz.underlying23 hi hz0 hz1 hz2 rfl (by omega) Al l.length cl _ rfl (RS'.out.st.fl.alloc_ _) _ 1 1 [f.cells] rfl (Row.new1' _ _ _ 8 _ (by first | rfl | simp)) (by simp [Factor.cells]) (by simp [Factor.cells,Value.oneCell']) (by simp only [maxLen];omega) (by omega) (by simp;omega) ?_;intro A14 c14 w14 ho14 hg14 hat14)
             have ST14:=Lib.hid (RS'.out.st.pushF hlt HWW.out HbW.out hg14 ho14 hat14 hf)
             clear hg14 ho14 hat14
             go_wp2_with fail
             exact ⟨⟨k - 1,A14,c14,l++[f],by simp,by simp,by simp;omega,ST14.out⟩,by simp only [intOf];omega⟩
        · have hkz:k=0:=by omega
          subst hkz
          go_wp2_with fail
          refine bodyPost_ret (v:=.slice Al l.length cl) (by simp [*,results,Tryz.results31,go_sem]) rfl ?_
          exact ⟨⟨Al,l.length,cl⟩,l,rfl,by omega,ST6.out.ok,ST6.out.fl,ST6.out.cur,ST6.out.upd⟩
end Go.Proofs.YtdfemnffpaopfaaGreatDoor
