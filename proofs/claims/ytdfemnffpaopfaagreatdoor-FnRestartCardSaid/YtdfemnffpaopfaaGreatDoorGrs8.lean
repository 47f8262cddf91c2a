/- Texts of this proof, one behind the other: Law, Open, Chan, Chan2, EntryS, Flat, Bun, TeamD, Draw2a, ChanFn. -/
import Derived.ProofKit
import Derived.OpenShut
import Derived.Carry
import Derived.Deep.Slices
import Derived.Test.YtdfemnffpaopfaaGreatDoorProg
import Derived.Outline
import Derived.Test.YtdfemnffpaopfaaGreatDoorGrs1
import Derived.Test.YtdfemnffpaopfaaGreatDoorGrs2
import Derived.Test.YtdfemnffpaopfaaGreatDoorGrs4
import Derived.Test.YtdfemnffpaopfaaGreatDoorGrs5
import Derived.Test.YtdfemnffpaopfaaGreatDoorGrs6
import Derived.Test.YtdfemnffpaopfaaGreatDoorGrs7
namespace Go.Proofs.YtdfemnffpaopfaaGreatDoor
open Go.ChangeShapes Go.WideShapes Go.ChangeAt Go.RowKit Go.Deep
set_option linter.unusedVariables false
set_option linter.unusedSimpArgs false

section
variable {H:Type} {enc:TypeId × Value→H} {P:Program}

theorem trodAll_below (hl:laidOutB P=true) {W W':World} {sp:Nat→Bool} (hb:Below W.heap.size W W'):∀ (ts:List TypeId) (vs:List Value) (ds:List (DataW H)) (ps:List MemPlace),
    ts.all (fun t=>P.readableRec t && decide (t < P.types.size))=true→DataW.TrodAll enc P W 0 (fun _=>true) true ts vs ds ps→(∀ x∈ps,x.block < W.heap.size)→(∀ x∈ps,sp x.block=true)→DataW.TrodAll enc P W' 0 sp true ts vs ds ps
  | [],vs,ds,ps,_,h,_,_=>by
    obtain ⟨rfl,rfl,rfl⟩:=trodAll_nil h
    exact trodAll_mk0
  | t :: ts,vs,ds,ps,ht,h,hlt,hs=>by
    obtain ⟨v,vs',d,ds',p,q,rfl,rfl,rfl,h1,h2⟩:=trodAll_cons h
    simp only [List.all_cons,Bool.and_eq_true,decide_eq_true_eq] at ht
    exact trodAll_cons_mk (WideElems.Trod_stays hl ht.1.1 ht.1.2 h1 (fun x hx=>hb.same (hlt x (by simp [hx]))) (fun x hx=>hs x (by simp [hx])))
      (trodAll_below hl hb ts vs' ds' q ht.2 h2 (fun x hx=>hlt x (by simp [hx])) (fun x hx=>hs x (by simp [hx])))

theorem law_post (hl:laidOutB P=true) {f:Func} {s:ChangeSpec} {W W':World} {args:Array Value} {ds:List (DataW H)} {before:List MemPlace} {tb:TypeId}
    (hp:f.params.toList.all (fun t=>P.readableRec t && decide (t < P.types.size))=true) (hrt:f.resultTypes = #[tb]) (htb:P.underlying tb=some .bool) (hvars:s.vars=[])
    (hW:DataW.Whole enc P f.params.toList s.vars false W args.toList ds [] before) (hs:s.fn H (ds++[]) = { results:=[.lit (.bool true)],args:=ds }) (hb:Below W.heap.size W W') :
    s.post enc P f false true false false W args (.bool true) W':=by
  have hlt:∀ p∈before,p.block < W.heap.size:=fun p hp=>hW.lt p hp
  have hW0:=hW
  obtain ⟨p,q,hA,hV,rfl,hz,hn⟩:=hW
  rw [hvars] at hV
  have hq:q=[]:=hV
  subst hq
  refine ⟨ds,[],p++[],[],p,[],hW0,?_,?_,?_,hb.frame _,fun h=>by cases h⟩
  · rw [hs,hrt]
    exact trodAll_cons_mk (p:=[]) (p':=[]) (shut_bool htb _) trodAll_mk0
  · rw [hs]
    exact trodAll_below hl hb _ _ _ _ hp hA (fun x hx=>hlt x (by simp [hx])) (fun x hx=>by simpa using hlt x (by simp [hx]))
  · rw [hs,hvars]
    rfl

def Opens (P:Program) (w:World) (t:TypeId) (good:List Value→Prop):Prop :=
  ∀ (H:Type) (enc:TypeId × Value→H) (base fuel:Nat) (spare:Nat→Bool) (held:Bool) (cs:List Value) (x:DataW H × List MemPlace),DataW.trod enc P w base spare held fuel t cs=some x→good cs
def gSlice (w:World) (sz:Nat) (good:List Value→Prop) (cs:List Value):Prop :=
  ∃ (A:Option Addr) (n c:Nat) (css:List (List Value)),cs=[.slice A n c]∧n≤c∧c≤maxLen∧Row w A n sz css∧∀ es∈css,es.length=sz∧good es
theorem opens_slice {w:World} {t e:TypeId} {sz:Nat} {good:List Value→Prop} (ht:P.underlying t=some (.slice e)) (hsz:P.cellsOf e=sz) (he:Opens P w e good)  (hs:0 < sz):Opens P w t (gSlice w sz good):=fun H enc base fuel spare held cs x h=>by
  rcases open_slice ht h with ⟨rfl,_⟩ | ⟨a,len,cap,m,n,D,Pl,rfl,_,hl,hm,hmm,_,hi⟩
  · exact ⟨none,0,0,[],rfl,Nat.le_refl _,Nat.zero_le _,⟨rfl,by simp⟩,by simp⟩
  · have hlm:len≤m:=by rw [hmm];split <;> omega
    have key:∀ i,i < len→∃ cs',w.cells? base (a.add (i * P.cellsOf e)) (P.cellsOf e)=some cs'∧good cs':=fun i hil=>by
      obtain ⟨cs',h1,h2⟩:=hi i (by omega)
      exact ⟨cs',h1,he _ _ _ _ _ _ _ _ h2⟩
    subst hsz
    have hF:∃ F:Nat→List Value,∀ i,i < len→w.cells? base (a.add (i * P.cellsOf e)) (P.cellsOf e)=some (F i)∧good (F i) :=
      ⟨fun i=>if h:i < len then Classical.choose (key i h) else [],fun i hil=>by
        simp only [hil,dif_pos]
        exact Classical.choose_spec (key i hil)⟩
    obtain ⟨F,hF⟩:=hF
    refine ⟨some a,len,cap,(List.range len).map F,rfl,hl,hm,⟨by simp,fun i cs hi=>?_⟩,fun es hes=>?_⟩
    · obtain ⟨h1,h2⟩:=List.getElem?_eq_some_iff.1 hi
      simp only [List.length_map,List.length_range] at h1
      simp only [List.getElem_map,List.getElem_range] at h2
      subst h2
      have hc:=World.cells?_some (hF i h1).1
      have hsp:a.spot=none:=by
        have h0:=(World.cells?_some (hF 0 (by omega)).1).2.2 0 hs
        have hlen0:=(World.cells?_some (hF 0 (by omega)).1).2.1
        rw [List.getElem?_eq_getElem (by omega)] at h0
        have e1:(a.add (0 * P.cellsOf e)).add 0=a:=by simp [Addr.add]
        rw [e1] at h0
        unfold World.cell? at h0
        split at h0
        · split at h0
          · cases h0
          · rename_i hn;simpa using hn
        · cases h0
      obtain ⟨g,off,sp⟩:=a
      simp only at hsp
      subst hsp
      refine ⟨g,off,rfl,fun j v hv=>?_⟩
      have hj:j < P.cellsOf e:=by rw [← hc.2.1];exact (List.getElem?_eq_some_iff.1 hv).1
      have:=hc.2.2 j hj
      rw [Addr.add_lit,Addr.add_lit] at this
      rw [this,hv]
    · obtain ⟨i,hi,rfl⟩:=List.mem_map.1 hes
      have hil:i < len:=by simpa using hi
      exact ⟨(World.cells?_some (hF i hil).1).2.1,(hF i hil).2⟩
end

def wfI (n:Int):Prop:=(Lit.int .i64 n).wf=true
def Factor.ok (f:Factor):Prop:=f.frm.size≤maxLen∧f.to.size≤maxLen∧wfI f.id∧wfI f.kind∧wfI f.pose.turn∧wfI f.pose.x∧wfI f.pose.y∧wfI f.weight
def Packet.ok (f:Packet):Prop:=f.text.size≤maxLen∧wfI f.number∧wfI f.sum
theorem smallF {l:List Factor} (h:Hid (sumBulk Factor.bulk l≤4194304)):∀ f∈l,f.frm.size≤4194304∧f.to.size≤4194304:=fun p hp=>by
  have h1:=mem_bulk (c:=Factor.bulk) hp
  have h2:=h.out
  simp only [Factor.bulk] at h1;omega
end Go.Proofs.YtdfemnffpaopfaaGreatDoor


namespace Go.Proofs.YtdfemnffpaopfaaGreatDoor
open Go.ChangeShapes Go.WideShapes Go.ChangeAt Go.RowKit Go.Deep
set_option linter.unusedVariables false
set_option linter.unusedSimpArgs false
set_option maxHeartbeats 400000
theorem laidB:laidOutB Tryz.prog=true:=by kernel_rfl

end Go.Proofs.YtdfemnffpaopfaaGreatDoor


namespace Go.Proofs.YtdfemnffpaopfaaGreatDoor
open Go.RowKit
set_option linter.unusedVariables false
set_option linter.unusedSimpArgs false
set_option maxHeartbeats 1600000
set_option maxRecDepth 100000
structure CV where
  q:Sv
  i:Sv
  n:Sv
  a:Sv
abbrev vChan (v:CV) (base expected:Int):Value:=.agg #[.slice v.q.A v.q.n v.q.c,.int .i64 base,.int .i64 expected,.slice v.i.A v.i.n v.i.c,.slice v.n.A v.n.n v.n.c,.slice v.a.A v.a.n v.a.c]
def cChan (v:CV) (base expected:Int):List Value:=[.slice v.q.A v.q.n v.q.c,.int .i64 base,.int .i64 expected,.slice v.i.A v.i.n v.i.c,.slice v.n.A v.n.n v.n.c,.slice v.a.A v.a.n v.a.c]
structure RdC (w:World) (v:CV) (c:Chan):Prop where
  q:RowS w v.q.A v.q.n c.queue
  i:RowS w v.i.A v.i.n c.inbox
  n:RowK w v.n.A v.n.n c.net
  a:RowK w v.a.A v.a.n c.acks
structure OwC (w:World) (v:CV) (c:Chan):Prop where
  q:Own w 0 9 1 v.q.A v.q.n v.q.c (c.queue.map strCells)
  i:Own w 0 9 1 v.i.A v.i.n v.i.c (c.inbox.map strCells)
  n:Own w 0 164 4 v.n.A v.n.n v.n.c (c.net.map Packet.cells)
  a:Own w 0 164 4 v.a.A v.a.n v.a.c (c.acks.map Packet.cells)
def fpC (v:CV):List Nat:=obl v.q.A++(obl v.i.A++(obl v.n.A++obl v.a.A))
theorem OwC.rd {w:World} {v:CV} {c:Chan} (h:OwC w v c):RdC w v c:=⟨h.q.row,h.i.row,h.n.row,h.a.row⟩
theorem RdC.below {w w':World} {v:CV} {c:Chan} (h:RdC w v c) (hb:Below w.heap.size w w'):RdC w' v c:=⟨h.q.below hb,h.i.below hb,h.n.below hb,h.a.below hb⟩
theorem OwC.lt {w:World} {v:CV} {c:Chan} (h:OwC w v c):∀ k∈fpC v,k < w.heap.size:=by
  intro k hk
  simp only [fpC,List.mem_append] at hk
  rcases hk with hk | hk | hk | hk
  · exact (h.q.lt k (mem_obl.1 hk)).2
  · exact (h.i.lt k (mem_obl.1 hk)).2
  · exact (h.n.lt k (mem_obl.1 hk)).2
  · exact (h.a.lt k (mem_obl.1 hk)).2
theorem OwC.keep {w w':World} {v:CV} {c:Chan} (h:OwC w v c) (hw:∀ k∈fpC v,w'.heap[k]? = w.heap[k]?):OwC w' v c:=by
  simp only [fpC,List.mem_append] at hw
  exact ⟨h.q.keep fun g hg=>hw g (.inl (mem_obl.2 hg)),h.i.keep fun g hg=>hw g (.inr (.inl (mem_obl.2 hg))),h.n.keep fun g hg=>hw g (.inr (.inr (.inl (mem_obl.2 hg)))),h.a.keep fun g hg=>hw g (.inr (.inr (.inr (mem_obl.2 hg))))⟩
theorem OwC.below {w w':World} {v:CV} {c:Chan} (h:OwC w v c) (hb:Below w.heap.size w w'):OwC w' v c:=h.keep fun k hk=>hb.block k (h.lt k hk)
theorem OwC.upd {w w':World} {v:CV} {c:Chan} {fs:List Nat} (h:OwC w v c) (hu:Upd fs w w') (hd:∀ k∈fpC v,k ∉ fs):OwC w' v c:=h.keep fun k hk=>hu.block k (h.lt k hk) (hd k hk)
def okC (c:Chan):Prop:=(∀ s∈c.queue,s.size≤maxLen)∧(∀ s∈c.inbox,s.size≤maxLen)∧(∀ p∈c.net,p.ok)∧(∀ p∈c.acks,p.ok)∧wfI c.base∧wfI c.expected
def lenC (v:CV):Prop:=v.q.n≤maxLen∧v.i.n≤maxLen∧v.n.n≤maxLen∧v.a.n≤maxLen
def bulkC (c:Chan):Nat:=(c.queue.length+sumBulk ByteArray.size c.queue)+((c.inbox.length+sumBulk ByteArray.size c.inbox)+((c.net.length+sumBulk Packet.bulk c.net)+(c.acks.length+sumBulk Packet.bulk c.acks)))

def fewC (c:Chan):Prop:=c.queue.length≤4194304∧c.inbox.length≤4194304∧c.net.length≤4194304∧c.acks.length≤4194304
theorem fewC_of {c:Chan} (h:bulkC c≤4194304):fewC c:=by unfold bulkC at h;unfold fewC;omega

def Entry.cells (f:Entry):List Value:=.bool f.remove :: .int .i64 f.id :: f.factor.cells
def Entry.bulk (f:Entry):Nat:=f.factor.bulk
abbrev RowN (w:World) (A:Option Addr) (n:Nat) (l:List Entry):Prop:=Row w A n 10 (l.map Entry.cells)
theorem RowN.at_ {w:World} {A:Option Addr} {n:Nat} {l:List Entry} (h:RowN w A n l) {k:Nat} (hk:k < n) :
    ∃ (f:Entry) (g off:Nat),Hid (l[k]? = some f)∧A=some ⟨g,off,none⟩∧w.cell? ⟨g,off+k * 10,none⟩=some (.bool f.remove)∧w.cell? ⟨g,off+k * 10+1,none⟩=some (.int .i64 f.id)∧w.cell? ⟨g,off+k * 10+2,none⟩=some (.int .i64 f.factor.id)∧w.cell? ⟨g,off+k * 10+3,none⟩=some (.int .i64 f.factor.kind)∧w.cell? ⟨g,off+k * 10+4,none⟩=some (.string f.factor.frm)∧w.cell? ⟨g,off+k * 10+5,none⟩=some (.string f.factor.to) ∧
      w.cell? ⟨g,off+k * 10+6,none⟩=some (.int .i64 f.factor.pose.turn)∧w.cell? ⟨g,off+k * 10+7,none⟩=some (.int .i64 f.factor.pose.x)∧w.cell? ⟨g,off+k * 10+8,none⟩=some (.int .i64 f.factor.pose.y)∧w.cell? ⟨g,off+k * 10+9,none⟩=some (.int .i64 f.factor.weight):=by
  obtain ⟨f,g,off,hf,hA,hc⟩:=Row.at_ h hk
  exact ⟨f,g,off,hf,hA,hc 0 _ rfl,hc 1 _ rfl,hc 2 _ rfl,hc 3 _ rfl,hc 4 _ rfl,hc 5 _ rfl,hc 6 _ rfl,hc 7 _ rfl,hc 8 _ rfl,hc 9 _ rfl⟩
def Entry.ok (f:Entry):Prop:=wfI f.id∧f.factor.ok
def RdF (w:World) (v:Sv) (l:List Factor):Prop:=Row w v.A v.n 8 (l.map Factor.cells)
def fpF (v:Sv):List Nat:=obl v.A
def lenF (v:Sv):Prop:=v.n≤maxLen
def okF (l:List Factor):Prop:=∀ x∈l,Factor.ok x
def bulkF (l:List Factor):Nat:=l.length+sumBulk Factor.bulk l
def fewF (l:List Factor):Prop:=l.length≤4194304
theorem RdF.below {w w':World} {v:Sv} {l:List Factor} (h:RdF w v l) (hb:Below w.heap.size w w'):RdF w' v l:=Row.below h hb
theorem RdF.len {w:World} {v:Sv} {l:List Factor} (h:RdF w v l):Hid (l.length=v.n):=Row.len h
def OwF (w:World) (v:Sv) (l:List Factor):Prop:=Own w 0 34 8 v.A v.n v.c (l.map Factor.cells)
theorem OwF.own {w:World} {v:Sv} {l:List Factor} (h:OwF w v l):Own w 0 34 8 v.A v.n v.c (l.map Factor.cells):=h
theorem OwF.rd {w:World} {v:Sv} {l:List Factor} (h:OwF w v l):RdF w v l:=Own.row h
theorem OwF.lt {w:World} {v:Sv} {l:List Factor} (h:OwF w v l):∀ k∈fpF v,k < w.heap.size:=fun k hk=>(Own.lt h k (mem_obl.1 hk)).2
theorem OwF.keep {w w':World} {v:Sv} {l:List Factor} (h:OwF w v l) (hw:∀ k∈fpF v,w'.heap[k]? = w.heap[k]?):OwF w' v l:=Own.keep h fun g hg=>hw g (mem_obl.2 hg)
theorem OwF.below {w w':World} {v:Sv} {l:List Factor} (h:OwF w v l) (hb:Below w.heap.size w w'):OwF w' v l:=h.keep fun k hk=>hb.block k (h.lt k hk)
theorem OwF.upd {w w':World} {v:Sv} {l:List Factor} {fs:List Nat} (h:OwF w v l) (hu:Upd fs w w') (hd:∀ k∈fpF v,k ∉ fs):OwF w' v l:=h.keep fun k hk=>hu.block k (h.lt k hk) (hd k hk)
def RdS (w:World) (v:Sv) (l:List ByteArray):Prop:=Row w v.A v.n 1 (l.map strCells)
def fpS (v:Sv):List Nat:=obl v.A
theorem RdS.len {w:World} {v:Sv} {l:List ByteArray} (h:RdS w v l):Hid (l.length=v.n):=Row.len h
def OwS (w:World) (v:Sv) (l:List ByteArray):Prop:=Own w 0 9 1 v.A v.n v.c (l.map strCells)
theorem OwS.rd {w:World} {v:Sv} {l:List ByteArray} (h:OwS w v l):RdS w v l:=Own.row h
theorem OwS.lt {w:World} {v:Sv} {l:List ByteArray} (h:OwS w v l):∀ k∈fpS v,k < w.heap.size:=fun k hk=>(Own.lt h k (mem_obl.1 hk)).2
theorem OwS.keep {w w':World} {v:Sv} {l:List ByteArray} (h:OwS w v l) (hw:∀ k∈fpS v,w'.heap[k]? = w.heap[k]?):OwS w' v l:=Own.keep h fun g hg=>hw g (mem_obl.2 hg)
theorem OwS.below {w w':World} {v:Sv} {l:List ByteArray} (h:OwS w v l) (hb:Below w.heap.size w w'):OwS w' v l:=h.keep fun k hk=>hb.block k (h.lt k hk)
theorem OwS.upd {w w':World} {v:Sv} {l:List ByteArray} {fs:List Nat} (h:OwS w v l) (hu:Upd fs w w') (hd:∀ k∈fpS v,k ∉ fs):OwS w' v l:=h.keep fun k hk=>hu.block k (h.lt k hk) (hd k hk)
def RdN (w:World) (v:Sv) (l:List Entry):Prop:=Row w v.A v.n 10 (l.map Entry.cells)
def fpN (v:Sv):List Nat:=obl v.A
def OwN (w:World) (v:Sv) (l:List Entry):Prop:=Own w 0 42 10 v.A v.n v.c (l.map Entry.cells)
theorem OwN.rd {w:World} {v:Sv} {l:List Entry} (h:OwN w v l):RdN w v l:=Own.row h
def RdB (w:World) (v:Sv) (b:Bundle):Prop:=RdF w v b.factors
def OwB (w:World) (v:Sv) (b:Bundle):Prop:=OwF w v b.factors
def fpB (v:Sv):List Nat:=obl v.A
def okB (b:Bundle):Prop:=wfI b.robot∧okF b.factors
def bulkB (b:Bundle):Nat:=bulkF b.factors
def fewB (b:Bundle):Prop:=fewF b.factors
theorem RdB.len {w:World} {v:Sv} {b:Bundle} (h:RdB w v b):Hid (b.factors.length=v.n):=RdF.len h
theorem OwB.rd {w:World} {v:Sv} {b:Bundle} (h:OwB w v b):RdB w v b:=OwF.rd h
theorem RdB.below {w w':World} {v:Sv} {b:Bundle} (h:RdB w v b) (hb:Below w.heap.size w w'):RdB w' v b:=RdF.below h hb
theorem OwB.below {w w':World} {v:Sv} {b:Bundle} (h:OwB w v b) (hb:Below w.heap.size w w'):OwB w' v b:=OwF.below h hb
theorem bulkF_small {l:List Factor} (h:bulkF l≤4194304):∀ f∈l,f.frm.size≤4194304∧f.to.size≤4194304:=smallF (by unfold bulkF at h;unfold Hid;omega)
theorem spec_IsValidBundle_k (v:Sv) (b:Bundle) (w:World) (hm:bulkB b≤4194304) (hok:okB b) (hr:RdB w v b) :
    Calls Tryz.prog 120 #[vBundle b.robot v.A v.n v.c] w fun e w'=>e=rBool (isBundle b.robot b.factors)∧Below w.heap.size w w' :=
  spec_IsValidBundle_c b.robot v.A v.n v.c b.factors w (by have:=hr.len.out;unfold bulkB bulkF at hm;omega) hr (bulkF_small hm)
theorem impl_IsValidBundle_k (v:Sv) (b:Bundle) (w:World) (hm:bulkB b≤4194304) (hok:okB b) (hr:RdB w v b) :
    Calls Tryz.prog 88 #[vBundle b.robot v.A v.n v.c] w fun e w'=>e=rBool (isBundle b.robot b.factors)∧Below w.heap.size w w' :=
  impl_IsValidBundle_c b.robot v.A v.n v.c b.factors w (by have:=hr.len.out;unfold bulkB bulkF at hm;omega) hr (bulkF_small hm)
end Go.Proofs.YtdfemnffpaopfaaGreatDoor

namespace Go.Proofs.YtdfemnffpaopfaaGreatDoor
open Go.RowKit
set_option linter.unusedVariables false
set_option linter.unusedSimpArgs false
set_option maxHeartbeats 400000
section
variable {α:Type} (cnt:α→Nat) (mk:Int→α→α)
end
theorem sum_mono {α:Type} {c d:α→Nat} (h:∀ x,c x≤d x):∀ l:List α,sumBulk c l≤sumBulk d l
  | []=>Nat.le_refl _
  | x :: l=>by have:=sum_mono h l;have:=h x;simp only [sumBulk];omega
theorem sum_one {α:Type} {c:α→Nat} (h:∀ x,1≤c x):∀ l:List α,l.length≤sumBulk c l
  | []=>Nat.le_refl _
  | x :: l=>by have:=sum_one h l;have:=h x;simp only [sumBulk,List.length_cons];omega
section
variable {α:Type} {K:World→List Nat→List Value→α→Prop}
end
def Robot.num (r:Robot):Nat:=1+r.factors.length
def Robot.bulk (r:Robot):Nat:=bulkF r.factors+r.journal.size
def Robot.ok (r:Robot):Prop:=okF r.factors∧r.journal.size≤maxLen
def cRobot (v:Sv) (r:Robot):List Value:=[.slice v.A v.n v.c,.string r.journal]
def RdRo (w:World) (cs:List Value) (r:Robot):Prop:=∃ v:Sv,cs=cRobot v r∧RdF w v r.factors∧lenF v
theorem RdRo.below {w w':World} {cs:List Value} {r:Robot} (h:RdRo w cs r) (hb:Below w.heap.size w w'):RdRo w' cs r:=by
  obtain ⟨v,h1,h2,h3⟩:=h
  exact ⟨v,h1,h2.below hb,h3⟩
def Chan.num (c:Chan):Nat:=1+(c.queue.length+(c.inbox.length+(c.net.length+c.acks.length)))
def RdCe (w:World) (cs:List Value) (c:Chan):Prop:=∃ v:CV,cs=cChan v c.base c.expected∧RdC w v c∧lenC v
theorem RdCe.below {w w':World} {cs:List Value} {r:Chan} (h:RdCe w cs r) (hb:Below w.heap.size w w'):RdCe w' cs r:=by
  obtain ⟨v,h1,h2,h3⟩:=h
  exact ⟨v,h1,h2.below hb,h3⟩
def okCs (l:List Chan):Prop:=∀ c∈l,okC c
def numCs (l:List Chan):Nat:=1+sumBulk Chan.num l
def bulkCs (l:List Chan):Nat:=l.length+sumBulk bulkC l
def RdCs (w:World) (cs:List Value) (l:List Chan):Prop:=∃ v:Sv,cs=[.slice v.A v.n v.c]∧RdSl RdCe w v.A v.n 6 l∧v.n≤maxLen
theorem RdCs.below {w w':World} {cs:List Value} {r:List Chan} (h:RdCs w cs r) (hb:Below w.heap.size w w'):RdCs w' cs r:=by
  obtain ⟨v,h1,h2,h3⟩:=h
  exact ⟨v,h1,h2.below (R:=RdCe) RdCe.below hb,h3⟩
def KRo (w:World) (f:List Nat) (cs:List Value) (r:Robot):Prop:=∃ v:Sv,cs=cRobot v r∧OwF w v r.factors∧f=fpF v
theorem loc_Ro:Loc KRo:=⟨fun ⟨v,h1,h2,h3⟩ hk=>⟨v,h1,h2.keep (by rw [← h3];exact hk),h3⟩,fun ⟨v,h1,h2,h3⟩ k hk=>h2.lt k (by rw [← h3];exact hk)⟩
theorem KRo.rd {w:World} {f:List Nat} {cs:List Value} {r:Robot} (h:KRo w f cs r):RdRo w cs r:=by
  obtain ⟨v,h1,h2,_⟩:=h
  exact ⟨v,h1,h2.rd,by have:=h2.own.nc;unfold lenF;omega⟩
theorem OwC.lens {w:World} {v:CV} {c:Chan} (h:OwC w v c):lenC v:=⟨by have:=h.q.nc;omega,by have:=h.i.nc;omega,by have:=h.n.nc;omega,by have:=h.a.nc;omega⟩
def KCe (w:World) (f:List Nat) (cs:List Value) (c:Chan):Prop:=∃ v:CV,cs=cChan v c.base c.expected∧OwC w v c∧f=fpC v
theorem loc_Ce:Loc KCe:=⟨fun ⟨v,h1,h2,h3⟩ hk=>⟨v,h1,h2.keep (by rw [← h3];exact hk),h3⟩,fun ⟨v,h1,h2,h3⟩ k hk=>h2.lt k (by rw [← h3];exact hk)⟩
theorem KCe.rd {w:World} {f:List Nat} {cs:List Value} {r:Chan} (h:KCe w f cs r):RdCe w cs r:=by
  obtain ⟨v,h1,h2,_⟩:=h
  exact ⟨v,h1,h2.rd,h2.lens⟩
def KCs (w:World) (f:List Nat) (cs:List Value) (l:List Chan):Prop:=∃ v:Sv,cs=[.slice v.A v.n v.c]∧OwSl KCe w f 84 6 v.A v.n v.c l
theorem loc_Cs:Loc KCs:=⟨fun ⟨v,h1,h2⟩ hk=>⟨v,h1,h2.keep loc_Ce hk⟩,fun ⟨v,h1,h2⟩ k hk=>h2.lt loc_Ce k hk⟩
theorem OwSl.nc {α:Type} {K:World→List Nat→List Value→α→Prop} {w:World} {fs:List Nat} {e sz n c:Nat} {A:Option Addr} {l:List α} (h:OwSl K w fs e sz A n c l):n≤c∧c≤maxLen:=by
  obtain ⟨css,fss,h1,_⟩:=h
  exact h1.nc
theorem KCs.rd {w:World} {f:List Nat} {cs:List Value} {r:List Chan} (h:KCs w f cs r):RdCs w cs r:=by
  obtain ⟨v,h1,h2⟩:=h
  exact ⟨v,h1,h2.rd (R:=RdCe) KCe.rd,by have:=h2.nc;omega⟩
theorem few_Ce {c:Chan} (h:c.num≤4194304):fewC c:=by unfold Chan.num at h;unfold fewC;omega
structure TV where
  r:Sv
  c:Sv
  fr:List Nat
  fc:List Nat
abbrev vTeam (v:TV):Value:=.agg #[.slice v.r.A v.r.n v.r.c,.slice v.c.A v.c.n v.c.c]
structure RdT (w:World) (v:TV) (t:Team):Prop where
  r:RdSl RdRo w v.r.A v.r.n 2 t.robots
  c:RdSl RdCs w v.c.A v.c.n 1 t.channels
structure OwT (w:World) (v:TV) (t:Team):Prop where
  r:OwSl KRo w v.fr 47 2 v.r.A v.r.n v.r.c t.robots
  c:OwSl KCs w v.fc 71 1 v.c.A v.c.n v.c.c t.channels
def fpT (v:TV):List Nat:=v.fr++v.fc
theorem OwT.rd {w:World} {v:TV} {t:Team} (h:OwT w v t):RdT w v t:=⟨h.r.rd (R:=RdRo) KRo.rd,h.c.rd (R:=RdCs) KCs.rd⟩
theorem RdT.below {w w':World} {v:TV} {t:Team} (h:RdT w v t) (hb:Below w.heap.size w w'):RdT w' v t:=⟨h.r.below (R:=RdRo) RdRo.below hb,h.c.below (R:=RdCs) RdCs.below hb⟩
theorem OwT.lt {w:World} {v:TV} {t:Team} (h:OwT w v t):∀ k∈fpT v,k < w.heap.size:=by
  intro k hk
  rcases List.mem_append.1 hk with hk | hk
  · exact h.r.lt loc_Ro k hk
  · exact h.c.lt loc_Cs k hk
theorem OwT.keep {w w':World} {v:TV} {t:Team} (h:OwT w v t) (hw:∀ k∈fpT v,w'.heap[k]? = w.heap[k]?):OwT w' v t :=
  ⟨h.r.keep loc_Ro fun k hk=>hw k (List.mem_append.2 (.inl hk)),h.c.keep loc_Cs fun k hk=>hw k (List.mem_append.2 (.inr hk))⟩
theorem OwT.below {w w':World} {v:TV} {t:Team} (h:OwT w v t) (hb:Below w.heap.size w w'):OwT w' v t:=h.keep fun k hk=>hb.block k (h.lt k hk)
theorem OwT.upd {w w':World} {v:TV} {t:Team} {fs:List Nat} (h:OwT w v t) (hu:Upd fs w w') (hd:∀ k∈fpT v,k ∉ fs):OwT w' v t:=h.keep fun k hk=>hu.block k (h.lt k hk) (hd k hk)
def okT (t:Team):Prop:=(∀ r∈t.robots,r.ok)∧∀ l∈t.channels,okCs l
def numT (t:Team):Nat:=sumBulk Robot.num t.robots+sumBulk numCs t.channels
def bulkT (t:Team):Nat:=(t.robots.length+sumBulk Robot.bulk t.robots)+(t.channels.length+sumBulk bulkCs t.channels)
def fewT (t:Team):Prop:=numT t≤4194304
theorem num_Ro:∀ l:List Robot,sumBulk Robot.num l≤l.length+sumBulk Robot.bulk l
  | []=>Nat.le_refl _
  | r :: l=>by have:=num_Ro l;simp only [sumBulk,Robot.num,Robot.bulk,bulkF,List.length_cons];omega
theorem num_Ce:∀ l:List Chan,sumBulk Chan.num l≤l.length+sumBulk bulkC l
  | []=>Nat.le_refl _
  | r :: l=>by have:=num_Ce l;simp only [sumBulk,Chan.num,bulkC,List.length_cons];omega
theorem num_Cs:∀ l:List (List Chan),sumBulk numCs l≤l.length+sumBulk bulkCs l
  | []=>Nat.le_refl _
  | r :: l=>by have:=num_Cs l;have:=num_Ce r;simp only [sumBulk,numCs,bulkCs,List.length_cons];omega
theorem fewT_of {t:Team} (h:bulkT t≤4194304):fewT t:=by
  have:=num_Ro t.robots;have:=num_Cs t.channels
  unfold bulkT at h;unfold fewT numT;omega
end Go.Proofs.YtdfemnffpaopfaaGreatDoor


namespace Go.Proofs.YtdfemnffpaopfaaGreatDoor
open Go.RowKit
set_option linter.unusedVariables false
set_option linter.unusedSimpArgs false
set_option maxHeartbeats 1000000
set_option maxRecDepth 100000
theorem Row.upd_ {w w':World} {A:Option Addr} {n sz:Nat} {css:List (List Value)} {fs:List Nat} (h:Row w A n sz css) (hu:Upd fs w w') (hd:∀ g off,A=some ⟨g,off,none⟩→g ∉ fs):Row w' A n sz css :=
  ⟨h.1,fun i cs hi=>by
    obtain ⟨g,off,rfl,hc⟩:=h.2 i cs hi
    exact ⟨g,off,rfl,fun j v hv=>(uBox hu g (cell_lt (hc j v hv)) (hd g off rfl) _).trans (hc j v hv)⟩⟩
theorem l01Pick_c {W w:World} {b:Nat} {A:Option Addr} {n c:Nat} (hy:Bytes W A n) (hn:n≤4194304) (h:Cur W w b A n c) (g m cp:Nat) (l:List Int) (hr:RowI w (some ⟨g,0,none⟩) m l) (hg:g≠b) (h0:0 < m) (h1:m≤256) :
    Calls Tryz.prog 97 #[.pointer (some ⟨b,0,none⟩),.slice (some ⟨g,0,none⟩) m cp] w fun e w'=>∃ x,e=rInt x∧x∈l∧Cur W w' b A n c∧Upd [b] w w':=by
  have HC:=Lib.hid h
  have hy':=Lib.hid hy
  have hr':=Lib.hid hr
  clear h hy hr
  have hmi0:(0:Int) < (m:Int):=by omega
  have hmi1:(m:Int)≤256:=by omega
  go_enter Tryz.func97,Tryz.ntmps97
  go_wp2_with fail
  refine Calls.mono (l01Below_c hy'.out hn HC.out (m:Int) (by omega) (by omega)) ?_
  rintro e w1 ⟨x,rfl,hx0,hx1,hc1,hu1⟩
  obtain ⟨k,rfl⟩:=Int.eq_ofNat_of_zero_le hx0
  have hk:k < m:=by omega
  obtain ⟨v,g',off',hv,hA,hcell⟩:=RowI.at_ (hr'.out.upd_ hu1 (fun g2 off2 e=>by simp only [Option.some.injEq,Addr.mk.injEq] at e;simp;omega)) hk
  simp only [Option.some.injEq,Addr.mk.injEq,and_true] at hA
  obtain ⟨rfl,rfl⟩:=hA
  rw [Nat.zero_add] at hcell
  go_wp2
  go_ret
  exact ⟨v,rfl,List.mem_of_getElem? hv.out,hc1,hu1⟩
theorem i64_of_wf {n:Int} (h:wfI n):-9223372036854775808≤n∧n≤9223372036854775807:=by
  unfold wfI at h
  simp [Lit.wf] at h
  have e:IntKind.i64.min = -9223372036854775808:=rfl
  rw [e] at h
  exact h
def shorts (l:List ByteArray):Bool:=l.all fun s=>decide (s.size≤300)
def ShInv (l:List ByteArray) (k:Nat):Prop:=shorts l=shorts (l.drop k)
theorem ShInv.step {l:List ByteArray} {k:Nat} {s:ByteArray} (h:ShInv l k) (hf:Hid (l[k]? = some s)):shorts l=(decide (s.size≤300) && shorts (l.drop (k+1))):=by
  unfold ShInv at h;rw [h,drop_at hf];rfl
theorem ShInv.done {l:List ByteArray} {k n:Nat} (h:ShInv l k) (hl:Hid (l.length=n)) (hk:¬ k < n):Hid (shorts l=true):=by
  unfold ShInv at h;rw [Hid,h,drop_end hl hk];rfl
theorem isChan_eq (c:Chan):Hid (isChan c=(shorts c.queue && (decide (c.queue.length≤8) && (inR c.base 0 1000000 && (inR c.expected c.base (c.base+c.queue.length) && (decide (c.net.length≤12) && decide (c.acks.length≤12))))))):=rfl
theorem impl_IsChannel_c (v:CV) (c:Chan) (w:World) (hb:wfI c.base) (hr:RdC w v c) :
    Calls Tryz.prog 52 #[vChan v c.base c.expected] w fun e w'=>e=rBool (isChan c)∧Below w.heap.size w w':=by
  have q0:=hr.q.len;have q2:=hr.n.len;have q3:=hr.a.len
  have E:=isChan_eq c
  have hb1:-9223372036854775808≤c.base∧c.base≤9223372036854775807:=i64_of_wf hb
  by_cases hL:v.q.n≤8∧v.n.n≤12∧v.a.n≤12
  · obtain ⟨l0,l1,l2⟩:=hL
    have HB:=Lib.hid hb1
    clear hb1 hb
    go_enter Tryz.func52,Tryz.ntmps52
    go_wp2_with fail
    go_loop [24] (fun i=>∃ k:Nat,k≤v.q.n∧i=.int .i64 k∧ShInv c.queue k) (fun i=>v.q.n - (intOf i).toNat)
    case atStart=>exact ⟨0,by omega,rfl,rfl⟩
    case round =>
      obtain ⟨k,hk,rfl,hi⟩:=hrel
      by_cases hlt:k < v.q.n
      · obtain ⟨s,g,off,hf,hA,g0⟩:=RowS.at_ hr.q hlt
        have lw:=cell_lt g0
        dsimp only at lw
        have hst:=Lib.hid (hi.step hf)
        clear hi
        rw [hA]
        by_cases hs:s.size≤300
        · have hnx:ShInv c.queue (k+1):=by rw [ShInv,hst.out];simp [hs]
          go_wp2_with fail
          go_round
          case rel=>exact ⟨k+1,by omega,by go_num,hnx⟩
          case measure=>simp [intOf];omega
        · have hfin:Hid (isChan c=false):=by rw [Hid,E.out,hst.out];simp [hs]
          go_wp2_with fail
          go_ret
          exact ⟨by rw [hfin.out];rfl,bAlloc (Below.refl _ _) _⟩
      · have hfin:=hi.done q0 hlt
        go_wp2_with fail
        have L0:=q0.out;have L2:=q2.out;have L3:=q3.out
        all_goals (go_ret;refine ⟨ret_bool ?_,bAlloc (Below.refl _ _) _⟩;rw [E.out,hfin.out,Bool.eq_iff_iff];simp [inR];omega)
  · have hfin:Hid (isChan c=false):=by
      have L0:=q0.out;have L2:=q2.out;have L3:=q3.out
      rw [Hid,E.out]
      by_cases h8:c.queue.length≤8
      · by_cases h12:c.net.length≤12
        · have:¬ c.acks.length≤12:=by omega
          simp [this]
        · simp [h12]
      · simp [h8]
    clear hb1 hb
    go_enter Tryz.func52,Tryz.ntmps52
    go_wp2_with fail
    all_goals first
      | (exfalso;omega)
      | (go_ret;exact ⟨by rw [hfin.out];rfl,bAlloc (Below.refl _ _) _⟩)
theorem spec_IsChannel_c (v:CV) (c:Chan) (w:World) (m0:v.q.n≤4194304) (hr:RdC w v c) :
    Calls Tryz.prog 107 #[vChan v c.base c.expected] w fun e w'=>e=rBool (isChan c)∧Below w.heap.size w w':=by
  have q0:=hr.q.len;have q2:=hr.n.len;have q3:=hr.a.len
  have E:=isChan_eq c
  go_enter Tryz.func107,Tryz.ntmps107
  go_wp2_with fail
  go_loop [8] (fun i=>∃ k:Nat,k≤v.q.n∧i=.int .i64 k∧ShInv c.queue k) (fun i=>v.q.n - (intOf i).toNat)
  case atStart=>exact ⟨0,by omega,rfl,rfl⟩
  case round =>
    obtain ⟨k,hk,rfl,hi⟩:=hrel
    by_cases hlt:k < v.q.n
    · obtain ⟨s,g,off,hf,hA,g0⟩:=RowS.at_ hr.q hlt
      have lw:=cell_lt g0
      dsimp only at lw
      have hst:=Lib.hid (hi.step hf)
      clear hi
      rw [hA]
      by_cases hs:s.size≤300
      · have hnx:ShInv c.queue (k+1):=by rw [ShInv,hst.out];simp [hs]
        go_wp2_with fail
        go_round
        case rel=>exact ⟨k+1,by omega,by go_num,hnx⟩
        case measure=>simp [intOf];omega
      · have hfin:Hid (isChan c=false):=by rw [Hid,E.out,hst.out];simp [hs]
        go_wp2_with fail
        go_ret
        exact ⟨by rw [hfin.out];rfl,bAlloc (Below.refl _ _) _⟩
    · have hfin:=hi.done q0 hlt
      have L0:=q0.out;have L2:=q2.out;have L3:=q3.out
      have HL0:=Lib.hid L0;have HL2:=Lib.hid L2;have HL3:=Lib.hid L3
      clear L0 L2 L3
      by_cases hbase:0≤c.base∧c.base≤1000000
      · have hi0:=Lib.hid (inR_iff.2 hbase)
        obtain ⟨hb0,hb1⟩:=hbase
        generalize hx:inR c.expected c.base (c.base+v.q.n)=bx
        have hX:=Lib.hid hx
        clear hx
        go_wp2_with (go_at_call 105;refine (l01In_c _ _ _ _).mono ?_;(first | rw [hi0.out] | rw [hX.out]);rintro e w2 ⟨rfl,rfl⟩)
        all_goals (go_ret;refine ⟨ret_bool ?_,bAlloc (Below.refl _ _) _⟩;rw [E.out,hfin.out,HL0.out,HL2.out,HL3.out,hi0.out,hX.out];first | (simp_all;done) | (simp_all;omega) | (simp_all;rw [Bool.eq_iff_iff];simp;omega))
      · have hi0:Hid (inR c.base 0 1000000=false):=by simpa [Hid,inR] using hbase
        have hff:Hid (isChan c=false):=by rw [Hid,E.out,hi0.out];simp
        clear hbase
        go_wp2_with (go_at_call 105;refine (l01In_c _ _ _ _).mono ?_;rw [hi0.out];rintro e w2 ⟨rfl,rfl⟩)
        all_goals (go_ret;refine ⟨by rw [hff.out];rfl,bAlloc (Below.refl _ _) _⟩)
end Go.Proofs.YtdfemnffpaopfaaGreatDoor
