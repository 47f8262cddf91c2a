/- Texts of this proof, one behind the other: Law, Open, Chan, Chan2, EntryS, Flat, Bun, TeamD, Draw2a, ChanFn. -/
import Derived.ProofKit
import Derived.OpenShut
import Derived.Carry
import Derived.Deep.Slices
import Derived.Test.YtdfemnffpaopfaaGreatDoorProg
import Derived.Outline
import Derived.Test.YtdfemnffpaopfaaGreatDoorGmf0
import Derived.Test.YtdfemnffpaopfaaGreatDoorGmf1
import Derived.Test.YtdfemnffpaopfaaGreatDoorGmf2
import Derived.Test.YtdfemnffpaopfaaGreatDoorGmf3
import Derived.Test.YtdfemnffpaopfaaGreatDoorGmf4
import Derived.Test.YtdfemnffpaopfaaGreatDoorGmf5
namespace Go.Proofs.YtdfemnffpaopfaaGreatDoor
open Go.ChangeShapes Go.WideShapes Go.ChangeAt Go.RowKit Go.Deep
set_option linter.unusedVariables false
set_option linter.unusedSimpArgs false

section
variable {H:Type} {enc:TypeId × Value→H} {P:Program}

theorem trodAll_below (hl:laidOutB P=true) {W W':World} {sp:Nat→Bool} (hb:Below W.heap.size W W'):∀ (ts:List TypeId) (vs:List Value) (ds:List (DataW H)) (ps:List MemPlace),
    ts.all (fun t=>P.readableRec t && decide (t < P.types.size))=true→DataW.TrodAll enc P W 0 (fun _=>true) true ts vs ds ps→(∀ x∈ps,x.block < W.heap.size)→(∀ x∈ps,sp x.block=true)→DataW.TrodAll enc P W' 0 sp true ts vs ds ps
  | [],vs,ds,ps,_,h,_,_=>by
    obtain ⟨rfl,rfl,rfl⟩:=trodAll_nil h
    exact trodAll_mk0
  | t :: ts,vs,ds,ps,ht,h,hlt,hs=>by
    obtain ⟨v,vs',d,ds',p,q,rfl,rfl,rfl,h1,h2⟩:=trodAll_cons h
    simp only [List.all_cons,Bool.and_eq_true,decide_eq_true_eq] at ht
    exact trodAll_cons_mk (WideElems.Trod_stays hl ht.1.1 ht.1.2 h1 (fun x hx=>hb.same (hlt x (by simp [hx]))) (fun x hx=>hs x (by simp [hx])))
      (trodAll_below hl hb ts vs' ds' q ht.2 h2 (fun x hx=>hlt x (by simp [hx])) (fun x hx=>hs x (by simp [hx])))

theorem law_post (hl:laidOutB P=true) {f:Func} {s:ChangeSpec} {W W':World} {args:Array Value} {ds:List (DataW H)} {before:List MemPlace} {tb:TypeId}
    (hp:f.params.toList.all (fun t=>P.readableRec t && decide (t < P.types.size))=true) (hrt:f.resultTypes = #[tb]) (htb:P.underlying tb=some .bool) (hvars:s.vars=[])
    (hW:DataW.Whole enc P f.params.toList s.vars false W args.toList ds [] before) (hs:s.fn H (ds++[]) = { results:=[.lit (.bool true)],args:=ds }) (hb:Below W.heap.size W W') :
    s.post enc P f false true false false W args (.bool true) W':=by
  have hlt:∀ p∈before,p.block < W.heap.size:=fun p hp=>hW.lt p hp
  have hW0:=hW
  obtain ⟨p,q,hA,hV,rfl,hz,hn⟩:=hW
  rw [hvars] at hV
  have hq:q=[]:=hV
  subst hq
  refine ⟨ds,[],p++[],[],p,[],hW0,?_,?_,?_,hb.frame _,fun h=>by cases h⟩
  · rw [hs,hrt]
    exact trodAll_cons_mk (p:=[]) (p':=[]) (shut_bool htb _) trodAll_mk0
  · rw [hs]
    exact trodAll_below hl hb _ _ _ _ hp hA (fun x hx=>hlt x (by simp [hx])) (fun x hx=>by simpa using hlt x (by simp [hx]))
  · rw [hs,hvars]
    rfl

def Opens (P:Program) (w:World) (t:TypeId) (good:List Value→Prop):Prop :=
  ∀ (H:Type) (enc:TypeId × Value→H) (base fuel:Nat) (spare:Nat→Bool) (held:Bool) (cs:List Value) (x:DataW H × List MemPlace),DataW.trod enc P w base spare held fuel t cs=some x→good cs
def gInt (cs:List Value):Prop:=∃ n:Int,cs=[.int .i64 n]∧(Lit.int .i64 n).wf=true
def gStr (cs:List Value):Prop:=∃ s:ByteArray,cs=[.string s]∧s.size≤maxLen
def gBool (cs:List Value):Prop:=∃ b:Bool,cs=[.bool b]
theorem opens_int {w:World} {t:TypeId} (ht:P.underlying t=some (.int .i64)):Opens P w t gInt:=fun H enc base fuel spare held cs x h=>by
  obtain ⟨n,rfl,_,hw⟩:=DataW.trod_int ht h
  exact ⟨n,rfl,hw⟩
theorem opens_str {w:World} {t:TypeId} (ht:P.underlying t=some .string):Opens P w t gStr:=fun H enc base fuel spare held cs x h=>by
  obtain ⟨n,rfl,_,hw⟩:=DataW.trod_string ht h
  exact ⟨n,rfl,hw⟩
theorem opens_bool {w:World} {t:TypeId} (ht:P.underlying t=some .bool):Opens P w t gBool:=fun H enc base fuel spare held cs x h=>by
  obtain ⟨n,rfl,_⟩:=DataW.trod_bool ht h
  exact ⟨n,rfl⟩
theorem opens_field {w:World} {t:TypeId} {fs:Array Field} (ht:P.underlying t=some (.struct fs)) {H:Type} {enc:TypeId × Value→H} {base fuel:Nat} {spare:Nat→Bool} {held:Bool} {cs:List Value} {x:DataW H × List MemPlace}
    (h:DataW.trod enc P w base spare held fuel t cs=some x):cs.length=P.cellsOf t∧∀ (j:Nat) (f:Field) (good:List Value→Prop),fs[j]? = some f→Opens P w f.type good→good ((cs.drop f.offset).take (P.cellsOf f.type)):=by
  obtain ⟨xs,n,_,_,hl,hlen,hf⟩:=DataW.trod_struct ht h
  refine ⟨hl,fun j f good hj ho=>?_⟩
  have h1:=hf j f hj
  have hjl:j < fs.size:=(Array.getElem?_eq_some_iff.1 hj).1
  cases hx:xs[j]? with
  | none=>rw [List.getElem?_eq_none_iff] at hx;omega
  | some y=>rw [hx] at h1;exact ho _ _ _ _ _ _ _ _ h1
def gSlice (w:World) (sz:Nat) (good:List Value→Prop) (cs:List Value):Prop :=
  ∃ (A:Option Addr) (n c:Nat) (css:List (List Value)),cs=[.slice A n c]∧n≤c∧c≤maxLen∧Row w A n sz css∧∀ es∈css,es.length=sz∧good es
theorem opens_slice {w:World} {t e:TypeId} {sz:Nat} {good:List Value→Prop} (ht:P.underlying t=some (.slice e)) (hsz:P.cellsOf e=sz) (he:Opens P w e good)  (hs:0 < sz):Opens P w t (gSlice w sz good):=fun H enc base fuel spare held cs x h=>by
  rcases open_slice ht h with ⟨rfl,_⟩ | ⟨a,len,cap,m,n,D,Pl,rfl,_,hl,hm,hmm,_,hi⟩
  · exact ⟨none,0,0,[],rfl,Nat.le_refl _,Nat.zero_le _,⟨rfl,by simp⟩,by simp⟩
  · have hlm:len≤m:=by rw [hmm];split <;> omega
    have key:∀ i,i < len→∃ cs',w.cells? base (a.add (i * P.cellsOf e)) (P.cellsOf e)=some cs'∧good cs':=fun i hil=>by
      obtain ⟨cs',h1,h2⟩:=hi i (by omega)
      exact ⟨cs',h1,he _ _ _ _ _ _ _ _ h2⟩
    subst hsz
    have hF:∃ F:Nat→List Value,∀ i,i < len→w.cells? base (a.add (i * P.cellsOf e)) (P.cellsOf e)=some (F i)∧good (F i) :=
      ⟨fun i=>if h:i < len then Classical.choose (key i h) else [],fun i hil=>by
        simp only [hil,dif_pos]
        exact Classical.choose_spec (key i hil)⟩
    obtain ⟨F,hF⟩:=hF
    refine ⟨some a,len,cap,(List.range len).map F,rfl,hl,hm,⟨by simp,fun i cs hi=>?_⟩,fun es hes=>?_⟩
    · obtain ⟨h1,h2⟩:=List.getElem?_eq_some_iff.1 hi
      simp only [List.length_map,List.length_range] at h1
      simp only [List.getElem_map,List.getElem_range] at h2
      subst h2
      have hc:=World.cells?_some (hF i h1).1
      have hsp:a.spot=none:=by
        have h0:=(World.cells?_some (hF 0 (by omega)).1).2.2 0 hs
        have hlen0:=(World.cells?_some (hF 0 (by omega)).1).2.1
        rw [List.getElem?_eq_getElem (by omega)] at h0
        have e1:(a.add (0 * P.cellsOf e)).add 0=a:=by simp [Addr.add]
        rw [e1] at h0
        unfold World.cell? at h0
        split at h0
        · split at h0
          · cases h0
          · rename_i hn;simpa using hn
        · cases h0
      obtain ⟨g,off,sp⟩:=a
      simp only at hsp
      subst hsp
      refine ⟨g,off,rfl,fun j v hv=>?_⟩
      have hj:j < P.cellsOf e:=by rw [← hc.2.1];exact (List.getElem?_eq_some_iff.1 hv).1
      have:=hc.2.2 j hj
      rw [Addr.add_lit,Addr.add_lit] at this
      rw [this,hv]
    · obtain ⟨i,hi,rfl⟩:=List.mem_map.1 hes
      have hil:i < len:=by simpa using hi
      exact ⟨(World.cells?_some (hF i hil).1).2.1,(hF i hil).2⟩
end

theorem list_of {α:Type} {c:α→List Value} {ok:α→Prop}:∀ (css:List (List Value)),(∀ es∈css,∃ f,es=c f∧ok f)→∃ l:List α,css=l.map c∧∀ f∈l,ok f
  | [],_=>⟨[],rfl,by simp⟩
  | e :: r,h=>by
    obtain ⟨f,rfl,hf⟩:=h e (by simp)
    obtain ⟨l,rfl,hl⟩:=list_of r (fun es hes=>h es (by simp [hes]))
    exact ⟨f :: l,rfl,by simpa using ⟨hf,hl⟩⟩
theorem len2 {l:List Value} (h:l.length=2):∃ a b,l=[a,b]:=by
  match l,h with
  | [a,b],_=>exact ⟨a,b,rfl⟩
theorem len3 {l:List Value} (h:l.length=3):∃ a b c,l=[a,b,c]:=by
  match l,h with
  | [a,b,c],_=>exact ⟨a,b,c,rfl⟩
theorem len4 {l:List Value} (h:l.length=4):∃ a b c d,l=[a,b,c,d]:=by
  match l,h with
  | [a,b,c,d],_=>exact ⟨a,b,c,d,rfl⟩
theorem len6 {l:List Value} (h:l.length=6):∃ a b c d e f,l=[a,b,c,d,e,f]:=by
  match l,h with
  | [a,b,c,d,e,f],_=>exact ⟨a,b,c,d,e,f,rfl⟩
theorem len8 {l:List Value} (h:l.length=8):∃ a b c d e f g i,l=[a,b,c,d,e,f,g,i]:=by
  match l,h with
  | [a,b,c,d,e,f,g,i],_=>exact ⟨a,b,c,d,e,f,g,i,rfl⟩
theorem arr_of {cs:Array Value} {l:List Value} (h:cs.toList=l):cs=l.toArray:=by rw [← h]
def wfI (n:Int):Prop:=(Lit.int .i64 n).wf=true
def Factor.ok (f:Factor):Prop:=f.frm.size≤maxLen∧f.to.size≤maxLen∧wfI f.id∧wfI f.kind∧wfI f.pose.turn∧wfI f.pose.x∧wfI f.pose.y∧wfI f.weight
def Packet.ok (f:Packet):Prop:=f.text.size≤maxLen∧wfI f.number∧wfI f.sum
def gPose (cs:List Value):Prop:=∃ p:Pose,cs=[.int .i64 p.turn,.int .i64 p.x,.int .i64 p.y]∧wfI p.turn∧wfI p.x∧wfI p.y
def gFactor (cs:List Value):Prop:=∃ f:Factor,cs=f.cells∧f.ok
def gPacket (cs:List Value):Prop:=∃ f:Packet,cs=f.cells∧f.ok
theorem okFactor {l:List Factor} (h:∀ f∈l,f.ok):∀ f∈l,f.frm.size≤maxLen∧f.to.size≤maxLen:=fun f hf=>⟨(h f hf).1,(h f hf).2.1⟩
theorem okPacket {l:List Packet} (h:∀ f∈l,f.ok):∀ f∈l,f.text.size≤maxLen:=fun f hf=>(h f hf).1
theorem smallF {l:List Factor} (h:Hid (sumBulk Factor.bulk l≤4194304)):∀ f∈l,f.frm.size≤4194304∧f.to.size≤4194304:=fun p hp=>by
  have h1:=mem_bulk (c:=Factor.bulk) hp
  have h2:=h.out
  simp only [Factor.bulk] at h1;omega
end Go.Proofs.YtdfemnffpaopfaaGreatDoor


namespace Go.Proofs.YtdfemnffpaopfaaGreatDoor
open Go.ChangeShapes Go.WideShapes Go.ChangeAt Go.RowKit Go.Deep
set_option linter.unusedVariables false
set_option linter.unusedSimpArgs false
set_option maxHeartbeats 400000
theorem cells_int:Tryz.prog.cellsOf 3=1:=by kernel_rfl
theorem cells_string:Tryz.prog.cellsOf 9=1:=by kernel_rfl
theorem cells_bool:Tryz.prog.cellsOf 4=1:=by kernel_rfl
theorem laidB:laidOutB Tryz.prog=true:=by kernel_rfl

theorem cells_Pose:Tryz.prog.cellsOf 59=3:=by kernel_rfl
theorem opens_Pose (w:World):Opens Tryz.prog w 59 gPose:=fun H enc base fuel spare held cs x h=>by
  obtain ⟨hl,hf⟩:=opens_field Tryz.underlying59 h
  rw [cells_Pose] at hl
  obtain ⟨a,b,c,rfl⟩:=len3 hl
  obtain ⟨n0,e0,w0⟩:=hf 0 _ gInt rfl (opens_int Tryz.underlying3)
  obtain ⟨n1,e1,w1⟩:=hf 1 _ gInt rfl (opens_int Tryz.underlying3)
  obtain ⟨n2,e2,w2⟩:=hf 2 _ gInt rfl (opens_int Tryz.underlying3)
  simp [cells_int] at e0 e1 e2
  subst e0 e1 e2
  exact ⟨⟨n0,n1,n2⟩,rfl,w0,w1,w2⟩
theorem cells_Factor:Tryz.prog.cellsOf 61=8:=by kernel_rfl
theorem opens_Factor (w:World):Opens Tryz.prog w 61 gFactor:=fun H enc base fuel spare held cs x h=>by
  obtain ⟨hl,hf⟩:=opens_field Tryz.underlying61 h
  rw [cells_Factor] at hl
  obtain ⟨a,b,c,d,e,f,g,i,rfl⟩:=len8 hl
  obtain ⟨n0,e0,w0⟩:=hf 0 _ gInt rfl (opens_int Tryz.underlying3)
  obtain ⟨n1,e1,w1⟩:=hf 1 _ gInt rfl (opens_int Tryz.underlying3)
  obtain ⟨n2,e2,w2⟩:=hf 2 _ gStr rfl (opens_str Tryz.underlying9)
  obtain ⟨n3,e3,w3⟩:=hf 3 _ gStr rfl (opens_str Tryz.underlying9)
  obtain ⟨p,e4,w4,w5,w6⟩:=hf 4 _ gPose rfl (opens_Pose w)
  obtain ⟨n7,e7,w7⟩:=hf 5 _ gInt rfl (opens_int Tryz.underlying3)
  simp [cells_int,cells_string,cells_Pose] at e0 e1 e2 e3 e4 e7
  obtain ⟨rfl,rfl,rfl⟩:=e4
  subst e0 e1 e2 e3 e7
  exact ⟨⟨n0,n1,n2,n3,p,n7⟩,rfl,w2,w3,w0,w1,w4,w5,w6,w7⟩
theorem opens_FactorS (w:World):Opens Tryz.prog w 141 (gSlice w 8 gFactor):=opens_slice Tryz.underlying141 cells_Factor (opens_Factor w) (by omega)
theorem rowF_of {w:World} {cs:List Value} (h:gSlice w 8 gFactor cs):∃ A n c l,cs=[.slice A n c]∧n≤maxLen∧RowF w A n l∧∀ f∈l,f.ok:=by
  obtain ⟨A,n,c,css,rfl,h1,h2,h3,h4⟩:=h
  obtain ⟨l,rfl,hl⟩:=list_of (c:=Factor.cells) (ok:=Factor.ok) css (fun es hes=>(h4 es hes).2)
  exact ⟨A,n,c,l,rfl,by omega,h3,hl⟩
theorem cells_Packet:Tryz.prog.cellsOf 217=4:=by kernel_rfl
theorem opens_Packet (w:World):Opens Tryz.prog w 217 gPacket:=fun H enc base fuel spare held cs x h=>by
  obtain ⟨hl,hf⟩:=opens_field Tryz.underlying217 h
  rw [cells_Packet] at hl
  obtain ⟨a,b,c,d,rfl⟩:=len4 hl
  obtain ⟨n0,e0⟩:=hf 0 _ gBool rfl (opens_bool Tryz.underlying4)
  obtain ⟨n1,e1,w1⟩:=hf 1 _ gInt rfl (opens_int Tryz.underlying3)
  obtain ⟨n2,e2,w2⟩:=hf 2 _ gStr rfl (opens_str Tryz.underlying9)
  obtain ⟨n3,e3,w3⟩:=hf 3 _ gInt rfl (opens_int Tryz.underlying3)
  simp [cells_int,cells_bool,cells_string] at e0 e1 e2 e3
  subst e0 e1 e2 e3
  exact ⟨⟨n0,n1,n2,n3⟩,rfl,w2,w1,w3⟩
end Go.Proofs.YtdfemnffpaopfaaGreatDoor


namespace Go.Proofs.YtdfemnffpaopfaaGreatDoor
open Go.RowKit
set_option linter.unusedVariables false
set_option linter.unusedSimpArgs false
set_option maxHeartbeats 1600000
set_option maxRecDepth 100000
structure CV where
  q:Sv
  i:Sv
  n:Sv
  a:Sv
abbrev vChan (v:CV) (base expected:Int):Value:=.agg #[.slice v.q.A v.q.n v.q.c,.int .i64 base,.int .i64 expected,.slice v.i.A v.i.n v.i.c,.slice v.n.A v.n.n v.n.c,.slice v.a.A v.a.n v.a.c]
def cChan (v:CV) (base expected:Int):List Value:=[.slice v.q.A v.q.n v.q.c,.int .i64 base,.int .i64 expected,.slice v.i.A v.i.n v.i.c,.slice v.n.A v.n.n v.n.c,.slice v.a.A v.a.n v.a.c]
structure RdC (w:World) (v:CV) (c:Chan):Prop where
  q:RowS w v.q.A v.q.n c.queue
  i:RowS w v.i.A v.i.n c.inbox
  n:RowK w v.n.A v.n.n c.net
  a:RowK w v.a.A v.a.n c.acks
structure OwC (w:World) (v:CV) (c:Chan):Prop where
  q:Own w 0 9 1 v.q.A v.q.n v.q.c (c.queue.map strCells)
  i:Own w 0 9 1 v.i.A v.i.n v.i.c (c.inbox.map strCells)
  n:Own w 0 164 4 v.n.A v.n.n v.n.c (c.net.map Packet.cells)
  a:Own w 0 164 4 v.a.A v.a.n v.a.c (c.acks.map Packet.cells)
def fpC (v:CV):List Nat:=obl v.q.A++(obl v.i.A++(obl v.n.A++obl v.a.A))
theorem OwC.rd {w:World} {v:CV} {c:Chan} (h:OwC w v c):RdC w v c:=⟨h.q.row,h.i.row,h.n.row,h.a.row⟩
theorem RdC.below {w w':World} {v:CV} {c:Chan} (h:RdC w v c) (hb:Below w.heap.size w w'):RdC w' v c:=⟨h.q.below hb,h.i.below hb,h.n.below hb,h.a.below hb⟩
theorem OwC.lt {w:World} {v:CV} {c:Chan} (h:OwC w v c):∀ k∈fpC v,k < w.heap.size:=by
  intro k hk
  simp only [fpC,List.mem_append] at hk
  rcases hk with hk | hk | hk | hk
  · exact (h.q.lt k (mem_obl.1 hk)).2
  · exact (h.i.lt k (mem_obl.1 hk)).2
  · exact (h.n.lt k (mem_obl.1 hk)).2
  · exact (h.a.lt k (mem_obl.1 hk)).2
theorem OwC.keep {w w':World} {v:CV} {c:Chan} (h:OwC w v c) (hw:∀ k∈fpC v,w'.heap[k]? = w.heap[k]?):OwC w' v c:=by
  simp only [fpC,List.mem_append] at hw
  exact ⟨h.q.keep fun g hg=>hw g (.inl (mem_obl.2 hg)),h.i.keep fun g hg=>hw g (.inr (.inl (mem_obl.2 hg))),h.n.keep fun g hg=>hw g (.inr (.inr (.inl (mem_obl.2 hg)))),h.a.keep fun g hg=>hw g (.inr (.inr (.inr (mem_obl.2 hg))))⟩
theorem OwC.below {w w':World} {v:CV} {c:Chan} (h:OwC w v c) (hb:Below w.heap.size w w'):OwC w' v c:=h.keep fun k hk=>hb.block k (h.lt k hk)
theorem OwC.upd {w w':World} {v:CV} {c:Chan} {fs:List Nat} (h:OwC w v c) (hu:Upd fs w w') (hd:∀ k∈fpC v,k ∉ fs):OwC w' v c:=h.keep fun k hk=>hu.block k (h.lt k hk) (hd k hk)
def okC (c:Chan):Prop:=(∀ s∈c.queue,s.size≤maxLen)∧(∀ s∈c.inbox,s.size≤maxLen)∧(∀ p∈c.net,p.ok)∧(∀ p∈c.acks,p.ok)∧wfI c.base∧wfI c.expected
def lenC (v:CV):Prop:=v.q.n≤maxLen∧v.i.n≤maxLen∧v.n.n≤maxLen∧v.a.n≤maxLen
def bulkC (c:Chan):Nat:=(c.queue.length+sumBulk ByteArray.size c.queue)+((c.inbox.length+sumBulk ByteArray.size c.inbox)+((c.net.length+sumBulk Packet.bulk c.net)+(c.acks.length+sumBulk Packet.bulk c.acks)))

def fewC (c:Chan):Prop:=c.queue.length≤4194304∧c.inbox.length≤4194304∧c.net.length≤4194304∧c.acks.length≤4194304
theorem fewC_of {c:Chan} (h:bulkC c≤4194304):fewC c:=by unfold bulkC at h;unfold fewC;omega
theorem szChannel_k (v:CV) (c:Chan) (left:Int) (w:World) (h1:0≤left) (h2:left≤4194304) (hl:lenC v) (hok:okC c) (hr:RdC w v c) :
    Calls Tryz.prog 149 #[vChan v c.base c.expected,.int .i64 left] w fun e w'=>SzPost left (bulkC c) e∧Below w.heap.size w w':=by
  obtain ⟨l0,l1,l2,l3⟩:=hl
  obtain ⟨o0,o1,o2,o3,_,_⟩:=hok
  have e0:=hr.q.len;have e1:=hr.i.len;have e2:=hr.n.len;have e3:=hr.a.len
  go_enter Tryz.func149,Tryz.ntmps149
  go_wp2_with fail
  refine (szStringS_c v.q.A v.q.n v.q.c c.queue left _ h1 h2 l0 (hr.q.below (bAlloc (Below.refl _ _) _)) o0).mono ?_
  rintro e w1 ⟨⟨r0,rfl,hp⟩,hb1⟩
  have H:=bTrans (bAlloc (Below.refl _ _) _) hb1
  have hz:w.heap.size+1≤w1.heap.size:=bsz1 hb1
  have hk1:=bBox hb1 w.heap.size (by simp)
  rcases hp with rfl | ⟨p0,s0⟩
  · go_wp2_with fail
    go_ret
    exact ⟨⟨_,rfl,.inl rfl⟩,H⟩
  have q0:r0≤4194304:=by have:=s0.out;omega
  have n0:¬ r0 < 0:=by omega
  go_wp2_with fail
  refine (szStringS_c v.i.A v.i.n v.i.c c.inbox r0 _ p0 q0 l1 (hr.i.below H) o1).mono ?_
  rintro e w2 ⟨⟨r1,rfl,hp⟩,hb2⟩
  have H:=bTrans H hb2
  have hk2:=bBox hb2 w.heap.size (by have:=H.size;have:=hz;have:=hb1.size;omega)
  rcases hp with rfl | ⟨p1,s1⟩
  · go_wp2_with fail
    go_ret
    exact ⟨⟨_,rfl,.inl rfl⟩,H⟩
  have q1:r1≤4194304:=by have:=s1.out;omega
  have n1:¬ r1 < 0:=by omega
  go_wp2_with fail
  refine (szPacketS_c v.n.A v.n.n v.n.c c.net r1 _ p1 q1 l2 (hr.n.below H) (okPacket o2)).mono ?_
  rintro e w3 ⟨⟨r2,rfl,hp⟩,hb3⟩
  have H:=bTrans H hb3
  have hk3:=bBox hb3 w.heap.size (by have:=H.size;have:=hz;have:=hb1.size;have:=hb2.size;omega)
  rcases hp with rfl | ⟨p2,s2⟩
  · go_wp2_with fail
    go_ret
    exact ⟨⟨_,rfl,.inl rfl⟩,H⟩
  have q2:r2≤4194304:=by have:=s2.out;omega
  have n2:¬ r2 < 0:=by omega
  go_wp2_with fail
  refine (szPacketS_c v.a.A v.a.n v.a.c c.acks r2 _ p2 q2 l3 (hr.a.below H) (okPacket o3)).mono ?_
  rintro e w4 ⟨⟨r3,rfl,hp⟩,hb4⟩
  have H:=bTrans H hb4
  have hk4:=bBox hb4 w.heap.size (by have:=H.size;have:=hz;have:=hb1.size;have:=hb2.size;have:=hb3.size;omega)
  rcases hp with rfl | ⟨p3,s3⟩
  · go_wp2_with fail
    go_ret
    exact ⟨⟨_,rfl,.inl rfl⟩,H⟩
  have q3:r3≤4194304:=by have:=s3.out;omega
  have n3:¬ r3 < 0:=by omega
  go_wp2_with fail
  go_ret
  refine ⟨⟨_,rfl,.inr ⟨p3,?_⟩⟩,H⟩
  have:=s0.out;have:=s1.out;have:=s2.out;have:=s3.out;have:=e0.out;have:=e1.out;have:=e2.out;have:=e3.out
  unfold bulkC Hid
  omega
theorem chan_end {w w1 w2 w3 w4 X1 X2 X3 X4:World} {B0:Nat} {A0 A1 A2 A3:Option Addr} {n0 n1 n2 n3 c0 c1 c2 c3:Nat} {c:Chan} (H:Below w.heap.size w w1) (hB:w.heap.size+3≤B0)
    (ho0:Own w1 B0 9 1 A0 n0 c0 (c.queue.map strCells)) (u1:Upd [w.heap.size+1,w.heap.size+1+1] w1 X1) (hb2:Below X1.heap.size X1 w2)
    (ho1:Own w2 X1.heap.size 9 1 A1 n1 c1 (c.inbox.map strCells)) (u2:Upd [w.heap.size+1,w.heap.size+1+1] w2 X2) (hb3:Below X2.heap.size X2 w3)
    (ho2:Own w3 X2.heap.size 164 4 A2 n2 c2 (c.net.map Packet.cells)) (u3:Upd [w.heap.size+1,w.heap.size+1+1] w3 X3) (hb4:Below X3.heap.size X3 w4)
    (ho3:Own w4 X3.heap.size 164 4 A3 n3 c3 (c.acks.map Packet.cells)) (u4:Upd [w.heap.size+1,w.heap.size+1+1] w4 X4) (hz:w.heap.size+3≤w1.heap.size) :
    OwC X4 ⟨⟨A0,n0,c0⟩,⟨A1,n1,c1⟩,⟨A2,n2,c2⟩,⟨A3,n3,c3⟩⟩ c∧Fresh w.heap.size X4 (fpC ⟨⟨A0,n0,c0⟩,⟨A1,n1,c1⟩,⟨A2,n2,c2⟩,⟨A3,n3,c3⟩⟩)∧Below w.heap.size w X4:=by
  have U4:=u4
  have U3:=(u3.then_below hb4).trans U4
  have U2:=(u2.then_below hb3).trans U3
  have U1:=(u1.then_below hb2).trans U2
  have a0:∀ k∈[w.heap.size+1,w.heap.size+1+1],k < w.heap.size+3:=by intro k hk;simp at hk;omega
  have s1:=U1.size;have s2:=U2.size;have s3:=U3.size;have s4:=U4.size
  have z1:=u1.size;have z2:=u2.size;have z3:=u3.size
  have y2:=hb2.size;have y3:=hb3.size;have y4:=hb4.size
  refine ⟨⟨(ho0.upd U1 (Upd.apart ho0 fun k hk=>by have:=a0 k hk;omega)).zero,(ho1.upd U2 (Upd.apart ho1 fun k hk=>by have:=a0 k hk;omega)).zero,(ho2.upd U3 (Upd.apart ho2 fun k hk=>by have:=a0 k hk;omega)).zero,(ho3.upd U4 (Upd.apart ho3 fun k hk=>by have:=a0 k hk;omega)).zero⟩,?_,bUpd H U1 (fun k hk=>by simp at hk;omega)⟩
  exact ((Fresh.obl_ ho0).rebase (by omega)).then_ ((Fresh.obl_ ho1).then_ ((Fresh.obl_ ho2).then_ ((Fresh.obl_ ho3).grow s4) (by omega) z3 s3) (by omega) z2 s2) (by omega) z1 s1
theorem toChannel_k (v:CV) (c:Chan) (w:World) (hm:fewC c) (hr:RdC w v c) :
    Calls Tryz.prog 154 #[vChan v c.base c.expected] w fun e w'=>∃ v',e=.returned (vChan v' c.base c.expected)∧OwC w' v' c∧Fresh w.heap.size w' (fpC v')∧Below w.heap.size w w':=by
  have hq:=hr.q.len;have hi:=hr.i.len;have hn:=hr.n.len;have ha:=hr.a.len
  have m0:v.q.n≤4194304:=by have:=hq.out;unfold fewC at hm;omega
  have m1:v.i.n≤4194304:=by have:=hi.out;unfold fewC at hm;omega
  have m2:v.n.n≤4194304:=by have:=hn.out;unfold fewC at hm;omega
  have m3:v.a.n≤4194304:=by have:=ha.out;unfold fewC at hm;omega
  clear hm
  go_enter Tryz.func154,Tryz.ntmps154
  go_wp2_with fail
  refine (toStringS_c v.q.A v.q.n v.q.c c.queue _ m0 (hr.q.below (by repeat (first | exact Below.refl _ _ | refine bAlloc ?_ _)))).mono ?_
  rintro e w1 ⟨A0,c0,rfl,ho0,hb1⟩
  have H:=bTrans (by repeat (first | exact Below.refl _ _ | refine bAlloc ?_ _):Below w.heap.size w _) hb1
  have H1:=H
  have hz1:w.heap.size+3≤w1.heap.size:=by have:=hb1.size;simp at this;omega
  have khb10:=bBox hb1 (w.heap.size) (by first | (simp;done) | (simp;omega))
  have fhb10:=bBoxF hb1 (w.heap.size) (by first | (simp;done) | (simp;omega))
  have khb11:=bBox hb1 (w.heap.size+1) (by first | (simp;done) | (simp;omega))
  have fhb11:=bBoxF hb1 (w.heap.size+1) (by first | (simp;done) | (simp;omega))
  have khb12:=bBox hb1 (w.heap.size+1+1) (by first | (simp;done) | (simp;omega))
  have fhb12:=bBoxF hb1 (w.heap.size+1+1) (by first | (simp;done) | (simp;omega))
  go_wp2_with fail
  refine (toStringS_c v.i.A v.i.n v.i.c c.inbox _ m1 (hr.i.below (by repeat (first | exact H | refine bSet ?_ (by simp;omega) _)))).mono ?_
  rintro e w2 ⟨A1,c1,rfl,ho1,hb2⟩
  have H:=bTrans (by repeat (first | exact H | refine bSet ?_ (by simp;omega) _):Below w.heap.size w _) hb2
  have hz2:w.heap.size+3≤w2.heap.size:=by have:=hb2.size;simp at this;omega
  have khb20:=bBox hb2 (w.heap.size) (by first | (simp;done) | (simp;omega))
  have fhb20:=bBoxF hb2 (w.heap.size) (by first | (simp;done) | (simp;omega))
  have khb21:=bBox hb2 (w.heap.size+1) (by first | (simp;done) | (simp;omega))
  have fhb21:=bBoxF hb2 (w.heap.size+1) (by first | (simp;done) | (simp;omega))
  have khb22:=bBox hb2 (w.heap.size+1+1) (by first | (simp;done) | (simp;omega))
  have fhb22:=bBoxF hb2 (w.heap.size+1+1) (by first | (simp;done) | (simp;omega))
  go_wp2_with fail
  refine (toPacketS_c v.n.A v.n.n v.n.c c.net _ m2 (hr.n.below (by repeat (first | exact H | refine bSet ?_ (by simp;omega) _)))).mono ?_
  rintro e w3 ⟨A2,c2,rfl,ho2,hb3⟩
  have H:=bTrans (by repeat (first | exact H | refine bSet ?_ (by simp;omega) _):Below w.heap.size w _) hb3
  have hz3:w.heap.size+3≤w3.heap.size:=by have:=hb3.size;simp at this;omega
  have khb30:=bBox hb3 (w.heap.size) (by first | (simp;done) | (simp;omega))
  have fhb30:=bBoxF hb3 (w.heap.size) (by first | (simp;done) | (simp;omega))
  have khb31:=bBox hb3 (w.heap.size+1) (by first | (simp;done) | (simp;omega))
  have fhb31:=bBoxF hb3 (w.heap.size+1) (by first | (simp;done) | (simp;omega))
  have khb32:=bBox hb3 (w.heap.size+1+1) (by first | (simp;done) | (simp;omega))
  have fhb32:=bBoxF hb3 (w.heap.size+1+1) (by first | (simp;done) | (simp;omega))
  go_wp2_with fail
  refine (toPacketS_c v.a.A v.a.n v.a.c c.acks _ m3 (hr.a.below (by repeat (first | exact H | refine bSet ?_ (by simp;omega) _)))).mono ?_
  rintro e w4 ⟨A3,c3,rfl,ho3,hb4⟩
  have H:=bTrans (by repeat (first | exact H | refine bSet ?_ (by simp;omega) _):Below w.heap.size w _) hb4
  have hz4:w.heap.size+3≤w4.heap.size:=by have:=hb4.size;simp at this;omega
  have khb40:=bBox hb4 (w.heap.size) (by first | (simp;done) | (simp;omega))
  have fhb40:=bBoxF hb4 (w.heap.size) (by first | (simp;done) | (simp;omega))
  have khb41:=bBox hb4 (w.heap.size+1) (by first | (simp;done) | (simp;omega))
  have fhb41:=bBoxF hb4 (w.heap.size+1) (by first | (simp;done) | (simp;omega))
  have khb42:=bBox hb4 (w.heap.size+1+1) (by first | (simp;done) | (simp;omega))
  have fhb42:=bBoxF hb4 (w.heap.size+1+1) (by first | (simp;done) | (simp;omega))
  go_wp2_with fail
  refine bodyPost_ret (v:=vChan ⟨⟨A0,v.q.n,c0⟩,⟨A1,v.i.n,c1⟩,⟨A2,v.n.n,c2⟩,⟨A3,v.a.n,c3⟩⟩ c.base c.expected) (by simp [*,results,Tryz.results154,go_sem]) rfl ⟨_,rfl,?_⟩
  exact chan_end H1 (by simp) ho0 (by repeat (first | with_reducible exact Upd.refl _ _ | (with_reducible refine Upd.set_in ?_ ?_ _);rotate_left;simp)) hb2 ho1 (by repeat (first | with_reducible exact Upd.refl _ _ | (with_reducible refine Upd.set_in ?_ ?_ _);rotate_left;simp)) hb3 ho2 (by repeat (first | with_reducible exact Upd.refl _ _ | (with_reducible refine Upd.set_in ?_ ?_ _);rotate_left;simp)) hb4 ho3 (by repeat (first | with_reducible exact Upd.refl _ _ | (with_reducible refine Upd.set_in ?_ ?_ _);rotate_left;simp)) hz1
theorem eqChannel_k (v v2:CV) (c:Chan) (w:World) (hm:fewC c) (hr:RdC w v c) (hr2:RdC w v2 c) :
    Calls Tryz.prog 156 #[vChan v c.base c.expected,vChan v2 c.base c.expected] w fun e w'=>e=rBool true∧Below w.heap.size w w':=by
  have q0:=hr.q.len;have q'0:=hr2.q.len
  have m0:v.q.n≤4194304:=by have:=q0.out;unfold fewC at hm;omega
  have H0:Hid (v2.q.n=v.q.n):=q'0.out.symm.trans q0.out
  have q1:=hr.i.len;have q'1:=hr2.i.len
  have m1:v.i.n≤4194304:=by have:=q1.out;unfold fewC at hm;omega
  have H1:Hid (v2.i.n=v.i.n):=q'1.out.symm.trans q1.out
  have q2:=hr.n.len;have q'2:=hr2.n.len
  have m2:v.n.n≤4194304:=by have:=q2.out;unfold fewC at hm;omega
  have H2:Hid (v2.n.n=v.n.n):=q'2.out.symm.trans q2.out
  have q3:=hr.a.len;have q'3:=hr2.a.len
  have m3:v.a.n≤4194304:=by have:=q3.out;unfold fewC at hm;omega
  have H3:Hid (v2.a.n=v.a.n):=q'3.out.symm.trans q3.out
  clear hm
  obtain ⟨⟨Aq,nq,cq⟩,⟨Ai,ni,ci⟩,⟨An,nn,cn⟩,⟨Aa,na,ca⟩⟩:=v
  obtain ⟨⟨Aq2,nq2,cq2⟩,⟨Ai2,ni2,ci2⟩,⟨An2,nn2,cn2⟩,⟨Aa2,na2,ca2⟩⟩:=v2
  obtain rfl:nq2=nq:=H0.out
  obtain rfl:ni2=ni:=H1.out
  obtain rfl:nn2=nn:=H2.out
  obtain rfl:na2=na:=H3.out
  dsimp only at m0 m1 m2 m3
  go_enter Tryz.func156,Tryz.ntmps156
  go_wp2_with fail
  refine (eqStringS_c Aq Aq2 nq2 cq cq2 c.queue _ m0 (hr.q.below (bAlloc (bAlloc (Below.refl _ _) _) _)) (hr2.q.below (bAlloc (bAlloc (Below.refl _ _) _) _))).mono ?_
  rintro e w1 ⟨rfl,hb1⟩
  have H:=bTrans (bAlloc (bAlloc (Below.refl _ _) _) _) hb1
  have hz:=bsz2 hb1
  have k10:=bBox hb1 (w.heap.size) (by simp;try omega)
  have k11:=bBox hb1 (w.heap.size+1) (by simp)
  go_wp2_with fail
  refine (eqStringS_c Ai Ai2 ni2 ci ci2 c.inbox _ m1 (hr.i.below H) (hr2.i.below H)).mono ?_
  rintro e w2 ⟨rfl,hb2⟩
  have H:=bTrans H hb2
  have hz:w.heap.size+2≤w2.heap.size:=by have:=hb2.size;omega
  have k20:=bBox hb2 (w.heap.size) (by omega)
  have k21:=bBox hb2 (w.heap.size+1) (by omega)
  go_wp2_with fail
  refine (eqPacketS_c An An2 nn2 cn cn2 c.net _ m2 (hr.n.below H) (hr2.n.below H)).mono ?_
  rintro e w3 ⟨rfl,hb3⟩
  have H:=bTrans H hb3
  have hz:w.heap.size+2≤w3.heap.size:=by have:=hb3.size;omega
  have k30:=bBox hb3 (w.heap.size) (by omega)
  have k31:=bBox hb3 (w.heap.size+1) (by omega)
  go_wp2_with fail
  refine (eqPacketS_c Aa Aa2 na2 ca ca2 c.acks _ m3 (hr.a.below H) (hr2.a.below H)).mono ?_
  rintro e w4 ⟨rfl,hb4⟩
  have H:=bTrans H hb4
  have hz:w.heap.size+2≤w4.heap.size:=by have:=hb4.size;omega
  go_wp2_with fail
  go_ret
  exact ⟨rfl,H⟩
theorem cells_Channel:Tryz.prog.cellsOf 180=6:=by kernel_rfl
theorem cells_strS:Tryz.prog.cellsOf 81=1:=by kernel_rfl
theorem cells_pktS:Tryz.prog.cellsOf 178=1:=by kernel_rfl
theorem opens_strS (w:World):Opens Tryz.prog w 81 (gSlice w 1 gStr):=opens_slice Tryz.underlying81 cells_string (opens_str Tryz.underlying9) (by omega)
theorem rowS_of {w:World} {cs:List Value} (h:gSlice w 1 gStr cs):∃ A n c l,cs=[.slice A n c]∧n≤maxLen∧RowS w A n l∧∀ f∈l,f.size≤maxLen:=by
  obtain ⟨A,n,c,css,rfl,h1,h2,h3,h4⟩:=h
  obtain ⟨l,rfl,hl⟩:=list_of (c:=strCells) (ok:=fun s=>s.size≤maxLen) css (fun es hes=>by obtain ⟨s,h5,h6⟩:=(h4 es hes).2;exact ⟨s,h5,h6⟩)
  exact ⟨A,n,c,l,rfl,by omega,h3,hl⟩
theorem opens_PacketS (w:World):Opens Tryz.prog w 178 (gSlice w 4 gPacket):=opens_slice Tryz.underlying178 cells_Packet (opens_Packet w) (by omega)
theorem rowK_of {w:World} {cs:List Value} (h:gSlice w 4 gPacket cs):∃ A n c l,cs=[.slice A n c]∧n≤maxLen∧RowK w A n l∧∀ f∈l,f.ok:=by
  obtain ⟨A,n,c,css,rfl,h1,h2,h3,h4⟩:=h
  obtain ⟨l,rfl,hl⟩:=list_of (c:=Packet.cells) (ok:=Packet.ok) css (fun es hes=>(h4 es hes).2)
  exact ⟨A,n,c,l,rfl,by omega,h3,hl⟩
def gChan (w:World) (cs:List Value):Prop:=∃ (v:CV) (c:Chan),cs=cChan v c.base c.expected∧RdC w v c∧okC c∧lenC v
theorem opens_Channel (w:World):Opens Tryz.prog w 180 (gChan w):=fun H enc base fuel spare held cs x h=>by
  obtain ⟨hl,hf⟩:=opens_field Tryz.underlying180 h
  rw [cells_Channel] at hl
  obtain ⟨a,b,c,d,e,f,rfl⟩:=len6 hl
  obtain ⟨A0,n0,c0,l0,e0,s0,r0,k0⟩:=rowS_of (hf 0 _ _ rfl (opens_strS w))
  obtain ⟨n1,e1,w1⟩:=hf 1 _ gInt rfl (opens_int Tryz.underlying3)
  obtain ⟨n2,e2,w2⟩:=hf 2 _ gInt rfl (opens_int Tryz.underlying3)
  obtain ⟨A3,n3,c3,l3,e3,s3,r3,k3⟩:=rowS_of (hf 3 _ _ rfl (opens_strS w))
  obtain ⟨A4,n4,c4,l4,e4,s4,r4,k4⟩:=rowK_of (hf 4 _ _ rfl (opens_PacketS w))
  obtain ⟨A5,n5,c5,l5,e5,s5,r5,k5⟩:=rowK_of (hf 5 _ _ rfl (opens_PacketS w))
  simp [cells_int,cells_strS,cells_pktS] at e0 e1 e2 e3 e4 e5
  subst e0 e1 e2 e3 e4 e5
  exact ⟨⟨⟨A0,n0,c0⟩,⟨A3,n3,c3⟩,⟨A4,n4,c4⟩,⟨A5,n5,c5⟩⟩,⟨l0,n1,n2,l3,l4,l5⟩,rfl,⟨r0,r3,r4,r5⟩,⟨k0,k3,k4,k5,w1,w2⟩,s0,s3,s4,s5⟩
def Entry.cells (f:Entry):List Value:=.bool f.remove :: .int .i64 f.id :: f.factor.cells
def Entry.ok (f:Entry):Prop:=wfI f.id∧f.factor.ok
def RdF (w:World) (v:Sv) (l:List Factor):Prop:=Row w v.A v.n 8 (l.map Factor.cells)
def fpF (v:Sv):List Nat:=obl v.A
def lenF (v:Sv):Prop:=v.n≤maxLen
def okF (l:List Factor):Prop:=∀ x∈l,Factor.ok x
def bulkF (l:List Factor):Nat:=l.length+sumBulk Factor.bulk l
def fewF (l:List Factor):Prop:=l.length≤4194304
def cntF (l:List Factor):Nat:=8 * l.length
theorem cntF_few {l:List Factor} (h:fewF l):(cntF l:Int)≤80000000:=by unfold cntF;unfold fewF at h;omega
def mkEF (k:Int):Factor:=⟨k,k+1,markTxt (k+2),markTxt (k+3),⟨k+4,k+5,k+6⟩,k+7⟩
def mkF (k:Int) (l:List Factor):List Factor:=(List.range l.length).map fun (i:Nat)=>mkEF (k+8 * (i:Int))
theorem RdF.below {w w':World} {v:Sv} {l:List Factor} (h:RdF w v l) (hb:Below w.heap.size w w'):RdF w' v l:=Row.below h hb
theorem RdF.len {w:World} {v:Sv} {l:List Factor} (h:RdF w v l):Hid (l.length=v.n):=Row.len h
theorem mkF_len (k:Int) (l:List Factor):(mkF k l).length=l.length:=by simp [mkF]
def OwF (w:World) (v:Sv) (l:List Factor):Prop:=Own w 0 34 8 v.A v.n v.c (l.map Factor.cells)
theorem OwF.own {w:World} {v:Sv} {l:List Factor} (h:OwF w v l):Own w 0 34 8 v.A v.n v.c (l.map Factor.cells):=h
theorem OwF.rd {w:World} {v:Sv} {l:List Factor} (h:OwF w v l):RdF w v l:=Own.row h
theorem OwF.lt {w:World} {v:Sv} {l:List Factor} (h:OwF w v l):∀ k∈fpF v,k < w.heap.size:=fun k hk=>(Own.lt h k (mem_obl.1 hk)).2
theorem OwF.keep {w w':World} {v:Sv} {l:List Factor} (h:OwF w v l) (hw:∀ k∈fpF v,w'.heap[k]? = w.heap[k]?):OwF w' v l:=Own.keep h fun g hg=>hw g (mem_obl.2 hg)
theorem OwF.below {w w':World} {v:Sv} {l:List Factor} (h:OwF w v l) (hb:Below w.heap.size w w'):OwF w' v l:=h.keep fun k hk=>hb.block k (h.lt k hk)
theorem OwF.upd {w w':World} {v:Sv} {l:List Factor} {fs:List Nat} (h:OwF w v l) (hu:Upd fs w w') (hd:∀ k∈fpF v,k ∉ fs):OwF w' v l:=h.keep fun k hk=>hu.block k (h.lt k hk) (hd k hk)
theorem szFactorS_k (v:Sv) (l:List Factor) (left:Int) (w:World) (h1:0≤left) (h2:left≤4194304) (hl:lenF v) (hok:okF l) (hr:RdF w v l) :
    Calls Tryz.prog 148 #[.slice v.A v.n v.c,.int .i64 left] w fun e w'=>SzPost left (bulkF l) e∧Below w.heap.size w w':=by
  have e:bulkF l=v.n+sumBulk Factor.bulk l:=by unfold bulkF;rw [hr.len.out]
  rw [e]
  exact szFactorS_c v.A v.n v.c l left w h1 h2 hl hr (okFactor hok)
theorem toFactorS_k (v:Sv) (l:List Factor) (w:World) (hm:fewF l) (hr:RdF w v l) :
    Calls Tryz.prog 153 #[.slice v.A v.n v.c] w fun e w'=>∃ v':Sv,e=.returned (.slice v'.A v'.n v'.c)∧OwF w' v' l∧Fresh w.heap.size w' (fpF v')∧Below w.heap.size w w' :=
  (toFactorS_c v.A v.n v.c l w (by have:=hr.len.out;unfold fewF at hm;omega) hr).mono fun e w' ⟨A,c,h1,h2,h3⟩=>⟨⟨A,v.n,c⟩,h1,h2.zero,Fresh.obl_ h2,h3⟩
theorem eqFactorS_k (v v2:Sv) (l:List Factor) (w:World) (hm:fewF l) (hr:RdF w v l) (hr2:RdF w v2 l) :
    Calls Tryz.prog 155 #[.slice v.A v.n v.c,.slice v2.A v2.n v2.c] w fun e w'=>e=rBool true∧Below w.heap.size w w':=by
  have e:v2.n=v.n:=hr2.len.out.symm.trans hr.len.out
  obtain ⟨A2,n2,c2⟩:=v2
  dsimp only at e hr2
  subst e
  exact eqFactorS_c v.A A2 v.n v.c c2 l w (by have:=hr.len.out;unfold fewF at hm;omega) hr hr2
theorem mkF_cells {k:Int} {l:List Factor} {n:Nat} (h:Hid (l.length=n)):(mkF k l).map Factor.cells=(List.range n).map (markFactor k):=by
  rw [← h.out]
  simp only [mkF,List.map_map]
  rfl
theorem markFactorS_k (v:Sv) (l:List Factor) (k0:Int) (w:World) (hk0:0≤k0) (hk1:k0≤10000000000) (hm:fewF l) (ho:OwF w v l) (hnd:(fpF v).Nodup) :
    Calls Tryz.prog 114 #[.slice v.A v.n v.c,.int .i64 k0] w fun e w'=>e=rInt (k0+cntF l)∧OwF w' v (mkF k0 l)∧Upd (fpF v) w w' :=
  (markFactorS_c v.A v.n v.c 0 _ k0 w (by have:=ho.rd.len.out;unfold fewF at hm;omega) hk0 (by omega) ho).mono fun e w' ⟨h1,h2,h3⟩=>⟨by rw [h1];unfold cntF;rw [ho.rd.len.out];push_cast;rfl,by unfold OwF;rw [mkF_cells ho.rd.len];exact h2,Upd.of_row h3⟩
theorem heldFactorS_k (v:Sv) (l:List Factor) (k0:Int) (w:World) (hk0:0≤k0) (hk1:k0≤10000000000) (hm:fewF l) (hr:RdF w v (mkF k0 l)) :
    Calls Tryz.prog 117 #[.slice v.A v.n v.c,.int .i64 k0] w fun e w'=>e=rInt (k0+cntF l)∧Below w.heap.size w w':=by
  have e:Hid (l.length=v.n):=by have:=hr.len.out;rw [mkF_len] at this;exact this
  refine (heldFactorS_c v.A v.n v.c k0 w (by have:=e.out;unfold fewF at hm;omega) hk0 (by omega) (by rw [← mkF_cells e];exact hr)).mono fun e' w' ⟨h1,h2⟩=>⟨by rw [h1];unfold cntF;rw [e.out];push_cast;rfl,h2⟩

def RdK (w:World) (v:Sv) (l:List Packet):Prop:=Row w v.A v.n 4 (l.map Packet.cells)
def fpK (v:Sv):List Nat:=obl v.A
def fewK (l:List Packet):Prop:=l.length≤4194304
def cntK (l:List Packet):Nat:=4 * l.length
theorem cntK_few {l:List Packet} (h:fewK l):(cntK l:Int)≤80000000:=by unfold cntK;unfold fewK at h;omega
def mkEK (k:Int):Packet:=⟨k % 3 == 0,k+1,markTxt (k+2),k+3⟩
def mkK (k:Int) (l:List Packet):List Packet:=(List.range l.length).map fun (i:Nat)=>mkEK (k+4 * (i:Int))
theorem RdK.len {w:World} {v:Sv} {l:List Packet} (h:RdK w v l):Hid (l.length=v.n):=Row.len h
theorem mkK_len (k:Int) (l:List Packet):(mkK k l).length=l.length:=by simp [mkK]
def OwK (w:World) (v:Sv) (l:List Packet):Prop:=Own w 0 164 4 v.A v.n v.c (l.map Packet.cells)
theorem OwK.rd {w:World} {v:Sv} {l:List Packet} (h:OwK w v l):RdK w v l:=Own.row h
theorem OwK.lt {w:World} {v:Sv} {l:List Packet} (h:OwK w v l):∀ k∈fpK v,k < w.heap.size:=fun k hk=>(Own.lt h k (mem_obl.1 hk)).2
theorem OwK.keep {w w':World} {v:Sv} {l:List Packet} (h:OwK w v l) (hw:∀ k∈fpK v,w'.heap[k]? = w.heap[k]?):OwK w' v l:=Own.keep h fun g hg=>hw g (mem_obl.2 hg)
theorem OwK.upd {w w':World} {v:Sv} {l:List Packet} {fs:List Nat} (h:OwK w v l) (hu:Upd fs w w') (hd:∀ k∈fpK v,k ∉ fs):OwK w' v l:=h.keep fun k hk=>hu.block k (h.lt k hk) (hd k hk)
theorem mkK_cells {k:Int} {l:List Packet} {n:Nat} (h:Hid (l.length=n)):(mkK k l).map Packet.cells=(List.range n).map (markPacket k):=by
  rw [← h.out]
  simp only [mkK,List.map_map]
  rfl
theorem markPacketS_k (v:Sv) (l:List Packet) (k0:Int) (w:World) (hk0:0≤k0) (hk1:k0≤10000000000) (hm:fewK l) (ho:OwK w v l) (hnd:(fpK v).Nodup) :
    Calls Tryz.prog 158 #[.slice v.A v.n v.c,.int .i64 k0] w fun e w'=>e=rInt (k0+cntK l)∧OwK w' v (mkK k0 l)∧Upd (fpK v) w w' :=
  (markPacketS_c v.A v.n v.c 0 _ k0 w (by have:=ho.rd.len.out;unfold fewK at hm;omega) hk0 (by omega) ho).mono fun e w' ⟨h1,h2,h3⟩=>⟨by rw [h1];unfold cntK;rw [ho.rd.len.out];push_cast;rfl,by unfold OwK;rw [mkK_cells ho.rd.len];exact h2,Upd.of_row h3⟩
theorem heldPacketS_k (v:Sv) (l:List Packet) (k0:Int) (w:World) (hk0:0≤k0) (hk1:k0≤10000000000) (hm:fewK l) (hr:RdK w v (mkK k0 l)) :
    Calls Tryz.prog 160 #[.slice v.A v.n v.c,.int .i64 k0] w fun e w'=>e=rInt (k0+cntK l)∧Below w.heap.size w w':=by
  have e:Hid (l.length=v.n):=by have:=hr.len.out;rw [mkK_len] at this;exact this
  refine (heldPacketS_c v.A v.n v.c k0 w (by have:=e.out;unfold fewK at hm;omega) hk0 (by omega) (by rw [← mkK_cells e];exact hr)).mono fun e' w' ⟨h1,h2⟩=>⟨by rw [h1];unfold cntK;rw [e.out];push_cast;rfl,h2⟩

def RdS (w:World) (v:Sv) (l:List ByteArray):Prop:=Row w v.A v.n 1 (l.map strCells)
def fpS (v:Sv):List Nat:=obl v.A
def fewS (l:List ByteArray):Prop:=l.length≤4194304
def cntS (l:List ByteArray):Nat:=1 * l.length
theorem cntS_few {l:List ByteArray} (h:fewS l):(cntS l:Int)≤80000000:=by unfold cntS;unfold fewS at h;omega
def mkES (k:Int):ByteArray:=markTxt k
def mkS (k:Int) (l:List ByteArray):List ByteArray:=(List.range l.length).map fun (i:Nat)=>mkES (k+1 * (i:Int))
theorem RdS.len {w:World} {v:Sv} {l:List ByteArray} (h:RdS w v l):Hid (l.length=v.n):=Row.len h
theorem mkS_len (k:Int) (l:List ByteArray):(mkS k l).length=l.length:=by simp [mkS]
def OwS (w:World) (v:Sv) (l:List ByteArray):Prop:=Own w 0 9 1 v.A v.n v.c (l.map strCells)
theorem OwS.rd {w:World} {v:Sv} {l:List ByteArray} (h:OwS w v l):RdS w v l:=Own.row h
theorem OwS.lt {w:World} {v:Sv} {l:List ByteArray} (h:OwS w v l):∀ k∈fpS v,k < w.heap.size:=fun k hk=>(Own.lt h k (mem_obl.1 hk)).2
theorem OwS.keep {w w':World} {v:Sv} {l:List ByteArray} (h:OwS w v l) (hw:∀ k∈fpS v,w'.heap[k]? = w.heap[k]?):OwS w' v l:=Own.keep h fun g hg=>hw g (mem_obl.2 hg)
theorem OwS.upd {w w':World} {v:Sv} {l:List ByteArray} {fs:List Nat} (h:OwS w v l) (hu:Upd fs w w') (hd:∀ k∈fpS v,k ∉ fs):OwS w' v l:=h.keep fun k hk=>hu.block k (h.lt k hk) (hd k hk)
theorem mkS_cells {k:Int} {l:List ByteArray} {n:Nat} (h:Hid (l.length=n)):(mkS k l).map strCells=(List.range n).map (markString k):=by
  rw [← h.out]
  simp only [mkS,List.map_map]
  rfl
theorem markStringS_k (v:Sv) (l:List ByteArray) (k0:Int) (w:World) (hk0:0≤k0) (hk1:k0≤10000000000) (hm:fewS l) (ho:OwS w v l) (hnd:(fpS v).Nodup) :
    Calls Tryz.prog 157 #[.slice v.A v.n v.c,.int .i64 k0] w fun e w'=>e=rInt (k0+cntS l)∧OwS w' v (mkS k0 l)∧Upd (fpS v) w w' :=
  (markStringS_c v.A v.n v.c 0 _ k0 w (by have:=ho.rd.len.out;unfold fewS at hm;omega) hk0 (by omega) ho).mono fun e w' ⟨h1,h2,h3⟩=>⟨by rw [h1];unfold cntS;rw [ho.rd.len.out];push_cast;rfl,by unfold OwS;rw [mkS_cells ho.rd.len];exact h2,Upd.of_row h3⟩
theorem heldStringS_k (v:Sv) (l:List ByteArray) (k0:Int) (w:World) (hk0:0≤k0) (hk1:k0≤10000000000) (hm:fewS l) (hr:RdS w v (mkS k0 l)) :
    Calls Tryz.prog 159 #[.slice v.A v.n v.c,.int .i64 k0] w fun e w'=>e=rInt (k0+cntS l)∧Below w.heap.size w w':=by
  have e:Hid (l.length=v.n):=by have:=hr.len.out;rw [mkS_len] at this;exact this
  refine (heldStringS_c v.A v.n v.c k0 w (by have:=e.out;unfold fewS at hm;omega) hk0 (by omega) (by rw [← mkS_cells e];exact hr)).mono fun e' w' ⟨h1,h2⟩=>⟨by rw [h1];unfold cntS;rw [e.out];push_cast;rfl,h2⟩

def RdN (w:World) (v:Sv) (l:List Entry):Prop:=Row w v.A v.n 10 (l.map Entry.cells)
def fpN (v:Sv):List Nat:=obl v.A
def OwN (w:World) (v:Sv) (l:List Entry):Prop:=Own w 0 42 10 v.A v.n v.c (l.map Entry.cells)
theorem OwN.rd {w:World} {v:Sv} {l:List Entry} (h:OwN w v l):RdN w v l:=Own.row h
def RdB (w:World) (v:Sv) (b:Bundle):Prop:=RdF w v b.factors
def OwB (w:World) (v:Sv) (b:Bundle):Prop:=OwF w v b.factors
def fpB (v:Sv):List Nat:=obl v.A
def okB (b:Bundle):Prop:=wfI b.robot∧okF b.factors
def bulkB (b:Bundle):Nat:=bulkF b.factors
theorem RdB.len {w:World} {v:Sv} {b:Bundle} (h:RdB w v b):Hid (b.factors.length=v.n):=RdF.len h
theorem RdB.below {w w':World} {v:Sv} {b:Bundle} (h:RdB w v b) (hb:Below w.heap.size w w'):RdB w' v b:=RdF.below h hb
theorem OwB.upd {w w':World} {v:Sv} {b:Bundle} {fs:List Nat} (h:OwB w v b) (hu:Upd fs w w') (hd:∀ k∈fpB v,k ∉ fs):OwB w' v b:=OwF.upd h hu hd
theorem bun_end {w w1 X:World} {v1:Sv} {b:Bundle} {B:Nat} (hlo:Hid (∀ q∈fpF v1,w.heap.size+3≤q)) (ho:OwF w1 v1 b.factors) (hf:Fresh B w1 (fpF v1)) (H:Below w.heap.size w w1) (hz:w.heap.size+3≤w1.heap.size)
    (u:Upd [w.heap.size+1,w.heap.size+1+1] w1 X):OwB X v1 b∧Fresh w.heap.size X (fpB v1)∧Below w.heap.size w X:=by
  have a0:∀ k∈[w.heap.size+1,w.heap.size+1+1],k < w.heap.size+3:=by intro k hk;simp at hk;omega
  refine ⟨OwF.upd ho u (fun k hk hm=>by have h1:=hlo.out k hk;have h2:=a0 k hm;omega),⟨hf.nodup,fun g hg=>by have:=hlo.out g hg;omega,fun g hg=>Nat.lt_of_lt_of_le (hf.hi g hg) u.size⟩,bUpd H u (fun k hk=>by simp at hk;omega)⟩
theorem bulkF_small {l:List Factor} (h:bulkF l≤4194304):∀ f∈l,f.frm.size≤4194304∧f.to.size≤4194304:=smallF (by unfold bulkF at h;unfold Hid;omega)
theorem spec_IsValidBundle_k (v:Sv) (b:Bundle) (w:World) (hm:bulkB b≤4194304) (hok:okB b) (hr:RdB w v b) :
    Calls Tryz.prog 120 #[vBundle b.robot v.A v.n v.c] w fun e w'=>e=rBool (isBundle b.robot b.factors)∧Below w.heap.size w w' :=
  spec_IsValidBundle_c b.robot v.A v.n v.c b.factors w (by have:=hr.len.out;unfold bulkB bulkF at hm;omega) hr (bulkF_small hm)
theorem impl_IsValidBundle_k (v:Sv) (b:Bundle) (w:World) (hm:bulkB b≤4194304) (hok:okB b) (hr:RdB w v b) :
    Calls Tryz.prog 88 #[vBundle b.robot v.A v.n v.c] w fun e w'=>e=rBool (isBundle b.robot b.factors)∧Below w.heap.size w w' :=
  impl_IsValidBundle_c b.robot v.A v.n v.c b.factors w (by have:=hr.len.out;unfold bulkB bulkF at hm;omega) hr (bulkF_small hm)
end Go.Proofs.YtdfemnffpaopfaaGreatDoor

namespace Go.Proofs.YtdfemnffpaopfaaGreatDoor
open Go.RowKit
set_option linter.unusedVariables false
set_option linter.unusedSimpArgs false
set_option maxHeartbeats 400000
section
variable {α:Type} (cnt:α→Nat) (mk:Int→α→α)
def mkAll:Int→List α→List α
  | _,[]=>[]
  | k,x :: l=>mk k x :: mkAll (k+cnt x) l
theorem mkAll_len:∀ (k:Int) (l:List α),(mkAll cnt mk k l).length=l.length
  | _,[]=>rfl
  | k,x :: l=>by simp [mkAll,mkAll_len _ l]
theorem mkAll_append:∀ (k:Int) (l m:List α),mkAll cnt mk k (l++m)=mkAll cnt mk k l++mkAll cnt mk (k+sumBulk cnt l) m
  | k,[],m=>by simp [mkAll,sumBulk]
  | k,x :: l,m=>by
    have e:k+(cnt x:Int)+(sumBulk cnt l:Int)=k+((cnt x+sumBulk cnt l:Nat):Int):=by push_cast;omega
    simp only [List.cons_append,mkAll,sumBulk,mkAll_append _ l m,e]
theorem mkAll_at:∀ (k:Int) (l:List α) (i:Nat) (x:α),l[i]? = some x→(mkAll cnt mk k l)[i]? = some (mk (k+sumBulk cnt (l.take i)) x)
  | k,y :: l,0,x,h=>by simp only [List.getElem?_cons_zero,Option.some.injEq] at h;subst h;simp [mkAll,sumBulk]
  | k,y :: l,i+1,x,h=>by
    have e:k+(cnt y:Int)+(sumBulk cnt (l.take i):Int)=k+((cnt y+sumBulk cnt (l.take i):Nat):Int):=by push_cast;omega
    simp only [List.getElem?_cons_succ] at h
    simp only [mkAll,List.getElem?_cons_succ,List.take_succ_cons,sumBulk,mkAll_at _ l i x h,e]
def MkU (k:Int) (l:List α) (i:Nat):List α:=mkAll cnt mk k (l.take i)++l.drop i
theorem MkU.zero (k:Int) (l:List α):MkU cnt mk k l 0=l:=by simp [MkU,mkAll]
theorem MkU.full {k:Int} {l:List α} {i n:Nat} (hl:Hid (l.length=n)) (hi:¬ i < n):MkU cnt mk k l i=mkAll cnt mk k l:=by
  have:l.length=n:=hl
  unfold MkU
  rw [List.take_of_length_le (by omega),List.drop_eq_nil_of_le (by omega),List.append_nil]
theorem MkU.at_ {k:Int} {l:List α} {i:Nat} {x:α} (hx:Hid (l[i]? = some x)):(MkU cnt mk k l i)[i]? = some x:=by
  have h:l[i]? = some x:=hx
  have hi:=(List.getElem?_eq_some_iff.1 h).1
  unfold MkU
  rw [List.getElem?_append_right (by simp [mkAll_len];omega)]
  simp [mkAll_len,Nat.min_eq_left (Nat.le_of_lt hi),h]
theorem MkU.next {k:Int} {l:List α} {i:Nat} {x:α} (hx:Hid (l[i]? = some x)):(MkU cnt mk k l i).set i (mk (k+sumBulk cnt (l.take i)) x)=MkU cnt mk k l (i+1):=by
  have h:l[i]? = some x:=hx
  obtain ⟨hi,rfl⟩:=List.getElem?_eq_some_iff.1 h
  unfold MkU
  have e:(mkAll cnt mk k (l.take i)).length=i:=by simp [mkAll_len];omega
  rw [List.set_append_right _ _ (by omega),e,Nat.sub_self,List.take_succ_eq_append_getElem hi,mkAll_append,List.append_assoc]
  congr 1
  rw [List.drop_eq_getElem_cons hi,List.set_cons_zero]
  rfl
end
theorem sum_take {α:Type} {c:α→Nat} {l:List α} {i:Nat} {x:α} (hx:Hid (l[i]? = some x)):sumBulk c (l.take (i+1))=sumBulk c (l.take i)+c x:=by
  have h:l[i]? = some x:=hx
  obtain ⟨hi,rfl⟩:=List.getElem?_eq_some_iff.1 h
  rw [List.take_succ_eq_append_getElem hi]
  generalize l.take i=m
  generalize l[i]=x
  induction m with
  | nil=>simp [sumBulk]
  | cons y m ih=>simp only [List.cons_append,sumBulk,ih];omega
theorem sum_take_le {α:Type} {c:α→Nat}:∀ {l:List α} {i:Nat},sumBulk c (l.take i)≤sumBulk c l
  | [],i=>by simp [sumBulk]
  | x :: l,0=>by simp [sumBulk]
  | x :: l,i+1=>by have:=sum_take_le (c:=c) (l:=l) (i:=i);simp only [List.take_succ_cons,sumBulk];omega
theorem sum_full {α:Type} {c:α→Nat} {l:List α} {i n:Nat} (hl:Hid (l.length=n)) (hi:¬ i < n):sumBulk c (l.take i)=sumBulk c l:=by
  have:l.length=n:=hl
  rw [List.take_of_length_le (by omega)]
theorem sum_mono {α:Type} {c d:α→Nat} (h:∀ x,c x≤d x):∀ l:List α,sumBulk c l≤sumBulk d l
  | []=>Nat.le_refl _
  | x :: l=>by have:=sum_mono h l;have:=h x;simp only [sumBulk];omega
theorem sum_mul {α:Type} {c:α→Nat} (m:Nat):∀ l:List α,sumBulk (fun x=>m * c x) l=m * sumBulk c l
  | []=>rfl
  | x :: l=>by simp only [sumBulk,sum_mul m l,Nat.mul_add]
theorem sum_one {α:Type} {c:α→Nat} (h:∀ x,1≤c x):∀ l:List α,l.length≤sumBulk c l
  | []=>Nat.le_refl _
  | x :: l=>by have:=sum_one h l;have:=h x;simp only [sumBulk,List.length_cons];omega
section
variable {α:Type} {K:World→List Nat→List Value→α→Prop}
def FillK (K:World→List Nat→List Value→α→Prop) (z:List Value) (e sz:Nat) (a wr:World) (n:Nat) (l:List α) (k:Nat):Prop :=
  ∃ dcs fss,Own wr a.heap.size e sz (some ⟨a.heap.size,0,none⟩) n n (dcs++List.replicate (n - k) z)∧dcs.length=k∧Each (K wr) fss dcs (l.take k)∧Fresh (a.heap.size+1) wr fss.flatten
theorem FillK.zero {z:List Value} {e sz n:Nat} {a w1:World} {l:List α} (h:Own w1 a.heap.size e sz (some ⟨a.heap.size,0,none⟩) n n (List.replicate n z)):FillK K z e sz a w1 n l 0 :=
  ⟨[],[],by simpa using h,rfl,by simp [Each],Fresh.nil _ _⟩
theorem FillK.step (hK:Loc K) {z:List Value} {e sz n k:Nat} {a wr w2:World} {l:List α} {x:α} {f:List Nat} {cs:List Value} (h:FillK K z e sz a wr n l k) (hx:Hid (l[k]? = some x)) (hk:k < n) (hb:Below wr.heap.size wr w2) (hk2:K w2 f cs x) (hf:Fresh wr.heap.size w2 f) :
    ∃ css,Own w2 a.heap.size e sz (some ⟨a.heap.size,0,none⟩) n n css∧∀ w3,Own w3 a.heap.size e sz (some ⟨a.heap.size,0,none⟩) n n (css.set k cs)→w2.grownBy w3 (some a.heap.size)→FillK K z e sz a w3 n l (k+1):=by
  obtain ⟨dcs,fss,h1,h2,h3,h4⟩:=h
  have hlo:a.heap.size < wr.heap.size:=(h1.lt a.heap.size rfl).2
  refine ⟨_,h1.below hb,fun w3 ho hg=>⟨dcs++[cs],fss++[f],?_,by simp [h2],?_,?_⟩⟩
  · have e1:n - k=(n - (k+1))+1:=by omega
    rw [e1,List.replicate_succ,List.set_append_right _ _ (by omega),h2,Nat.sub_self,List.set_cons_zero] at ho
    simpa using ho
  · have h':l[k]? = some x:=hx
    obtain ⟨hkl,rfl⟩:=List.getElem?_eq_some_iff.1 h'
    rw [List.take_succ_eq_append_getElem hkl]
    refine ((h3.keep_ hK fun q hq=>?_).append (Each.one (hK.keep hk2 fun q hq=>?_)))
    · have:=h4.hi q hq;have:=h4.lo q hq
      exact (hg.block q (by have:=hb.size;omega) (by simp;omega)).trans (hb.block q (h4.hi q hq))
    · have:=hf.lo q hq
      exact hg.block q (hf.hi q hq) (by simp;omega)
  · rw [List.flatten_append,List.flatten_cons,List.flatten_nil,List.append_nil]
    exact (h4.then_ hf (by omega) (Nat.le_refl _) hb.size).grow hg.size
theorem FillK.full {z:List Value} {e sz n k:Nat} {a wr:World} {l:List α} (h:FillK K z e sz a wr n l k) (hl:Hid (l.length=n)) (hk:¬ k < n) :
    ∃ fs,OwSl K wr fs e sz (some ⟨a.heap.size,0,none⟩) n n l∧Fresh a.heap.size wr fs:=by
  obtain ⟨dcs,fss,h1,h2,h3,h4⟩:=h
  have hl':l.length=n:=hl
  have e1:n - k=0:=by omega
  rw [e1,List.replicate_zero,List.append_nil] at h1
  rw [List.take_of_length_le (by omega)] at h3
  have hb:=(h1.lt a.heap.size rfl).2
  refine ⟨obl (some ⟨a.heap.size,0,none⟩)++fss.flatten,⟨dcs,fss,h1.zero,h3,rfl⟩,?_⟩
  refine Fresh.append (Fresh.obl_ h1) h4 (by omega) fun g hg=>?_
  simp [obl,ob] at hg;omega
end
def Robot.num (r:Robot):Nat:=1+r.factors.length
def Robot.bulk (r:Robot):Nat:=bulkF r.factors+r.journal.size
def Robot.cnt (r:Robot):Nat:=cntF r.factors+1
def Robot.mk_ (k:Int) (r:Robot):Robot:=⟨mkF k r.factors,markTxt (k+cntF r.factors)⟩
def Robot.ok (r:Robot):Prop:=okF r.factors∧r.journal.size≤maxLen
def cRobot (v:Sv) (r:Robot):List Value:=[.slice v.A v.n v.c,.string r.journal]
def RdRo (w:World) (cs:List Value) (r:Robot):Prop:=∃ v:Sv,cs=cRobot v r∧RdF w v r.factors∧lenF v
theorem RdRo.below {w w':World} {cs:List Value} {r:Robot} (h:RdRo w cs r) (hb:Below w.heap.size w w'):RdRo w' cs r:=by
  obtain ⟨v,h1,h2,h3⟩:=h
  exact ⟨v,h1,h2.below hb,h3⟩
def Chan.num (c:Chan):Nat:=1+(c.queue.length+(c.inbox.length+(c.net.length+c.acks.length)))
def Chan.cnt (c:Chan):Nat:=cntS c.queue+(2+(cntS c.inbox+(cntK c.net+cntK c.acks)))
def Chan.mk_ (k:Int) (c:Chan):Chan:={ queue:=mkS k c.queue,base:=k+cntS c.queue,expected:=k+cntS c.queue+1,inbox:=mkS (k+cntS c.queue+1+1) c.inbox,net:=mkK (k+cntS c.queue+1+1+cntS c.inbox) c.net,acks:=mkK (k+cntS c.queue+1+1+cntS c.inbox+cntK c.net) c.acks }
def RdCe (w:World) (cs:List Value) (c:Chan):Prop:=∃ v:CV,cs=cChan v c.base c.expected∧RdC w v c∧lenC v
theorem RdCe.below {w w':World} {cs:List Value} {r:Chan} (h:RdCe w cs r) (hb:Below w.heap.size w w'):RdCe w' cs r:=by
  obtain ⟨v,h1,h2,h3⟩:=h
  exact ⟨v,h1,h2.below hb,h3⟩
def okCs (l:List Chan):Prop:=∀ c∈l,okC c
def numCs (l:List Chan):Nat:=1+sumBulk Chan.num l
def bulkCs (l:List Chan):Nat:=l.length+sumBulk bulkC l
def cntCs (l:List Chan):Nat:=sumBulk Chan.cnt l
def mkCs (k:Int) (l:List Chan):List Chan:=mkAll Chan.cnt Chan.mk_ k l
def RdCs (w:World) (cs:List Value) (l:List Chan):Prop:=∃ v:Sv,cs=[.slice v.A v.n v.c]∧RdSl RdCe w v.A v.n 6 l∧v.n≤maxLen
theorem RdCs.below {w w':World} {cs:List Value} {r:List Chan} (h:RdCs w cs r) (hb:Below w.heap.size w w'):RdCs w' cs r:=by
  obtain ⟨v,h1,h2,h3⟩:=h
  exact ⟨v,h1,h2.below (R:=RdCe) RdCe.below hb,h3⟩
def KRo (w:World) (f:List Nat) (cs:List Value) (r:Robot):Prop:=∃ v:Sv,cs=cRobot v r∧OwF w v r.factors∧f=fpF v
theorem loc_Ro:Loc KRo:=⟨fun ⟨v,h1,h2,h3⟩ hk=>⟨v,h1,h2.keep (by rw [← h3];exact hk),h3⟩,fun ⟨v,h1,h2,h3⟩ k hk=>h2.lt k (by rw [← h3];exact hk)⟩
theorem KRo.rd {w:World} {f:List Nat} {cs:List Value} {r:Robot} (h:KRo w f cs r):RdRo w cs r:=by
  obtain ⟨v,h1,h2,_⟩:=h
  exact ⟨v,h1,h2.rd,by have:=h2.own.nc;unfold lenF;omega⟩
theorem OwC.lens {w:World} {v:CV} {c:Chan} (h:OwC w v c):lenC v:=⟨by have:=h.q.nc;omega,by have:=h.i.nc;omega,by have:=h.n.nc;omega,by have:=h.a.nc;omega⟩
def KCe (w:World) (f:List Nat) (cs:List Value) (c:Chan):Prop:=∃ v:CV,cs=cChan v c.base c.expected∧OwC w v c∧f=fpC v
theorem loc_Ce:Loc KCe:=⟨fun ⟨v,h1,h2,h3⟩ hk=>⟨v,h1,h2.keep (by rw [← h3];exact hk),h3⟩,fun ⟨v,h1,h2,h3⟩ k hk=>h2.lt k (by rw [← h3];exact hk)⟩
theorem KCe.rd {w:World} {f:List Nat} {cs:List Value} {r:Chan} (h:KCe w f cs r):RdCe w cs r:=by
  obtain ⟨v,h1,h2,_⟩:=h
  exact ⟨v,h1,h2.rd,h2.lens⟩
def KCs (w:World) (f:List Nat) (cs:List Value) (l:List Chan):Prop:=∃ v:Sv,cs=[.slice v.A v.n v.c]∧OwSl KCe w f 84 6 v.A v.n v.c l
theorem loc_Cs:Loc KCs:=⟨fun ⟨v,h1,h2⟩ hk=>⟨v,h1,h2.keep loc_Ce hk⟩,fun ⟨v,h1,h2⟩ k hk=>h2.lt loc_Ce k hk⟩
theorem OwSl.nc {α:Type} {K:World→List Nat→List Value→α→Prop} {w:World} {fs:List Nat} {e sz n c:Nat} {A:Option Addr} {l:List α} (h:OwSl K w fs e sz A n c l):n≤c∧c≤maxLen:=by
  obtain ⟨css,fss,h1,_⟩:=h
  exact h1.nc
theorem KCs.rd {w:World} {f:List Nat} {cs:List Value} {r:List Chan} (h:KCs w f cs r):RdCs w cs r:=by
  obtain ⟨v,h1,h2⟩:=h
  exact ⟨v,h1,h2.rd (R:=RdCe) KCe.rd,by have:=h2.nc;omega⟩
theorem few_Ro {r:Robot} (h:r.num≤4194304):fewF r.factors:=by unfold Robot.num at h;unfold fewF;omega
theorem few_Ce {c:Chan} (h:c.num≤4194304):fewC c:=by unfold Chan.num at h;unfold fewC;omega
theorem few_Cs {l:List Chan} (h:numCs l≤4194304):sumBulk Chan.num l≤4194304:=by unfold numCs at h;omega
structure TV where
  r:Sv
  c:Sv
  fr:List Nat
  fc:List Nat
abbrev vRobot (v:Sv) (r:Robot):Value:=.agg #[.slice v.A v.n v.c,.string r.journal]
abbrev vTeam (v:TV):Value:=.agg #[.slice v.r.A v.r.n v.r.c,.slice v.c.A v.c.n v.c.c]
structure RdT (w:World) (v:TV) (t:Team):Prop where
  r:RdSl RdRo w v.r.A v.r.n 2 t.robots
  c:RdSl RdCs w v.c.A v.c.n 1 t.channels
structure OwT (w:World) (v:TV) (t:Team):Prop where
  r:OwSl KRo w v.fr 47 2 v.r.A v.r.n v.r.c t.robots
  c:OwSl KCs w v.fc 71 1 v.c.A v.c.n v.c.c t.channels
def fpT (v:TV):List Nat:=v.fr++v.fc
theorem OwT.rd {w:World} {v:TV} {t:Team} (h:OwT w v t):RdT w v t:=⟨h.r.rd (R:=RdRo) KRo.rd,h.c.rd (R:=RdCs) KCs.rd⟩
theorem RdT.below {w w':World} {v:TV} {t:Team} (h:RdT w v t) (hb:Below w.heap.size w w'):RdT w' v t:=⟨h.r.below (R:=RdRo) RdRo.below hb,h.c.below (R:=RdCs) RdCs.below hb⟩
theorem OwT.lt {w:World} {v:TV} {t:Team} (h:OwT w v t):∀ k∈fpT v,k < w.heap.size:=by
  intro k hk
  rcases List.mem_append.1 hk with hk | hk
  · exact h.r.lt loc_Ro k hk
  · exact h.c.lt loc_Cs k hk
theorem OwT.keep {w w':World} {v:TV} {t:Team} (h:OwT w v t) (hw:∀ k∈fpT v,w'.heap[k]? = w.heap[k]?):OwT w' v t :=
  ⟨h.r.keep loc_Ro fun k hk=>hw k (List.mem_append.2 (.inl hk)),h.c.keep loc_Cs fun k hk=>hw k (List.mem_append.2 (.inr hk))⟩
theorem OwT.below {w w':World} {v:TV} {t:Team} (h:OwT w v t) (hb:Below w.heap.size w w'):OwT w' v t:=h.keep fun k hk=>hb.block k (h.lt k hk)
theorem OwT.upd {w w':World} {v:TV} {t:Team} {fs:List Nat} (h:OwT w v t) (hu:Upd fs w w') (hd:∀ k∈fpT v,k ∉ fs):OwT w' v t:=h.keep fun k hk=>hu.block k (h.lt k hk) (hd k hk)
def okT (t:Team):Prop:=(∀ r∈t.robots,r.ok)∧∀ l∈t.channels,okCs l
def lenT (v:TV):Prop:=v.r.n≤maxLen∧v.c.n≤maxLen
def numT (t:Team):Nat:=sumBulk Robot.num t.robots+sumBulk numCs t.channels
def bulkT (t:Team):Nat:=(t.robots.length+sumBulk Robot.bulk t.robots)+(t.channels.length+sumBulk bulkCs t.channels)
def fewT (t:Team):Prop:=numT t≤4194304
theorem num_Ro:∀ l:List Robot,sumBulk Robot.num l≤l.length+sumBulk Robot.bulk l
  | []=>Nat.le_refl _
  | r :: l=>by have:=num_Ro l;simp only [sumBulk,Robot.num,Robot.bulk,bulkF,List.length_cons];omega
theorem num_Ce:∀ l:List Chan,sumBulk Chan.num l≤l.length+sumBulk bulkC l
  | []=>Nat.le_refl _
  | r :: l=>by have:=num_Ce l;simp only [sumBulk,Chan.num,bulkC,List.length_cons];omega
theorem num_Cs:∀ l:List (List Chan),sumBulk numCs l≤l.length+sumBulk bulkCs l
  | []=>Nat.le_refl _
  | r :: l=>by have:=num_Cs l;have:=num_Ce r;simp only [sumBulk,numCs,bulkCs,List.length_cons];omega
theorem fewT_of {t:Team} (h:bulkT t≤4194304):fewT t:=by
  have:=num_Ro t.robots;have:=num_Cs t.channels
  unfold bulkT at h;unfold fewT numT;omega
def cntT (t:Team):Nat:=sumBulk Robot.cnt t.robots+sumBulk cntCs t.channels
def mkT (k:Int) (t:Team):Team:=⟨mkAll Robot.cnt Robot.mk_ k t.robots,mkAll cntCs mkCs (k+sumBulk Robot.cnt t.robots) t.channels⟩
theorem cnt_Ro (l:List Robot):sumBulk Robot.cnt l≤8 * sumBulk Robot.num l:=by
  rw [← sum_mul];exact sum_mono (fun r=>by simp only [Robot.cnt,Robot.num,cntF];omega) l
theorem cnt_Ce (l:List Chan):sumBulk Chan.cnt l≤8 * sumBulk Chan.num l:=by
  rw [← sum_mul];exact sum_mono (fun r=>by simp only [Chan.cnt,Chan.num,cntS,cntK];omega) l
theorem cnt_Cs (l:List (List Chan)):sumBulk cntCs l≤8 * sumBulk numCs l:=by
  rw [← sum_mul];exact sum_mono (fun r=>by have:=cnt_Ce r;simp only [cntCs,numCs];omega) l
theorem cntT_few {t:Team} (h:fewT t):(cntT t:Int)≤80000000:=by
  have:=cnt_Ro t.robots;have:=cnt_Cs t.channels
  unfold fewT numT at h;unfold cntT;omega
end Go.Proofs.YtdfemnffpaopfaaGreatDoor


namespace Go.Proofs.YtdfemnffpaopfaaGreatDoor
open Go.RowKit
set_option linter.unusedVariables false
set_option linter.unusedSimpArgs false
set_option maxHeartbeats 1000000
set_option maxRecDepth 100000

theorem i64_of_wf {n:Int} (h:wfI n):-9223372036854775808≤n∧n≤9223372036854775807:=by
  unfold wfI at h
  simp [Lit.wf] at h
  have e:IntKind.i64.min = -9223372036854775808:=rfl
  rw [e] at h
  exact h
def shorts (l:List ByteArray):Bool:=l.all fun s=>decide (s.size≤300)
def ShInv (l:List ByteArray) (k:Nat):Prop:=shorts l=shorts (l.drop k)
theorem ShInv.step {l:List ByteArray} {k:Nat} {s:ByteArray} (h:ShInv l k) (hf:Hid (l[k]? = some s)):shorts l=(decide (s.size≤300) && shorts (l.drop (k+1))):=by
  unfold ShInv at h;rw [h,drop_at hf];rfl
theorem ShInv.done {l:List ByteArray} {k n:Nat} (h:ShInv l k) (hl:Hid (l.length=n)) (hk:¬ k < n):Hid (shorts l=true):=by
  unfold ShInv at h;rw [Hid,h,drop_end hl hk];rfl
theorem isChan_eq (c:Chan):Hid (isChan c=(shorts c.queue && (decide (c.queue.length≤8) && (inR c.base 0 1000000 && (inR c.expected c.base (c.base+c.queue.length) && (decide (c.net.length≤12) && decide (c.acks.length≤12))))))):=rfl
theorem impl_IsChannel_c (v:CV) (c:Chan) (w:World) (hb:wfI c.base) (hr:RdC w v c) :
    Calls Tryz.prog 52 #[vChan v c.base c.expected] w fun e w'=>e=rBool (isChan c)∧Below w.heap.size w w':=by
  have q0:=hr.q.len;have q2:=hr.n.len;have q3:=hr.a.len
  have E:=isChan_eq c
  have hb1:-9223372036854775808≤c.base∧c.base≤9223372036854775807:=i64_of_wf hb
  by_cases hL:v.q.n≤8∧v.n.n≤12∧v.a.n≤12
  · obtain ⟨l0,l1,l2⟩:=hL
    have HB:=Lib.hid hb1
    clear hb1 hb
    go_enter Tryz.func52,Tryz.ntmps52
    go_wp2_with fail
    go_loop [24] (fun i=>∃ k:Nat,k≤v.q.n∧i=.int .i64 k∧ShInv c.queue k) (fun i=>v.q.n - (intOf i).toNat)
    case atStart=>exact ⟨0,by omega,rfl,rfl⟩
    case round =>
      obtain ⟨k,hk,rfl,hi⟩:=hrel
      by_cases hlt:k < v.q.n
      · obtain ⟨s,g,off,hf,hA,g0⟩:=RowS.at_ hr.q hlt
        have lw:=cell_lt g0
        dsimp only at lw
        have hst:=Lib.hid (hi.step hf)
        clear hi
        rw [hA]
        by_cases hs:s.size≤300
        · have hnx:ShInv c.queue (k+1):=by rw [ShInv,hst.out];simp [hs]
          go_wp2_with fail
          go_round
          case rel=>exact ⟨k+1,by omega,by go_num,hnx⟩
          case measure=>simp [intOf];omega
        · have hfin:Hid (isChan c=false):=by rw [Hid,E.out,hst.out];simp [hs]
          go_wp2_with fail
          go_ret
          exact ⟨by rw [hfin.out];rfl,bAlloc (Below.refl _ _) _⟩
      · have hfin:=hi.done q0 hlt
        go_wp2_with fail
        have L0:=q0.out;have L2:=q2.out;have L3:=q3.out
        all_goals (go_ret;refine ⟨ret_bool ?_,bAlloc (Below.refl _ _) _⟩;rw [E.out,hfin.out,Bool.eq_iff_iff];simp [inR];omega)
  · have hfin:Hid (isChan c=false):=by
      have L0:=q0.out;have L2:=q2.out;have L3:=q3.out
      rw [Hid,E.out]
      by_cases h8:c.queue.length≤8
      · by_cases h12:c.net.length≤12
        · have:¬ c.acks.length≤12:=by omega
          simp [this]
        · simp [h12]
      · simp [h8]
    clear hb1 hb
    go_enter Tryz.func52,Tryz.ntmps52
    go_wp2_with fail
    all_goals first
      | (exfalso;omega)
      | (go_ret;exact ⟨by rw [hfin.out];rfl,bAlloc (Below.refl _ _) _⟩)
theorem spec_IsChannel_c (v:CV) (c:Chan) (w:World) (m0:v.q.n≤4194304) (hr:RdC w v c) :
    Calls Tryz.prog 107 #[vChan v c.base c.expected] w fun e w'=>e=rBool (isChan c)∧Below w.heap.size w w':=by
  have q0:=hr.q.len;have q2:=hr.n.len;have q3:=hr.a.len
  have E:=isChan_eq c
  go_enter Tryz.func107,Tryz.ntmps107
  go_wp2_with fail
  go_loop [8] (fun i=>∃ k:Nat,k≤v.q.n∧i=.int .i64 k∧ShInv c.queue k) (fun i=>v.q.n - (intOf i).toNat)
  case atStart=>exact ⟨0,by omega,rfl,rfl⟩
  case round =>
    obtain ⟨k,hk,rfl,hi⟩:=hrel
    by_cases hlt:k < v.q.n
    · obtain ⟨s,g,off,hf,hA,g0⟩:=RowS.at_ hr.q hlt
      have lw:=cell_lt g0
      dsimp only at lw
      have hst:=Lib.hid (hi.step hf)
      clear hi
      rw [hA]
      by_cases hs:s.size≤300
      · have hnx:ShInv c.queue (k+1):=by rw [ShInv,hst.out];simp [hs]
        go_wp2_with fail
        go_round
        case rel=>exact ⟨k+1,by omega,by go_num,hnx⟩
        case measure=>simp [intOf];omega
      · have hfin:Hid (isChan c=false):=by rw [Hid,E.out,hst.out];simp [hs]
        go_wp2_with fail
        go_ret
        exact ⟨by rw [hfin.out];rfl,bAlloc (Below.refl _ _) _⟩
    · have hfin:=hi.done q0 hlt
      have L0:=q0.out;have L2:=q2.out;have L3:=q3.out
      have HL0:=Lib.hid L0;have HL2:=Lib.hid L2;have HL3:=Lib.hid L3
      clear L0 L2 L3
      by_cases hbase:0≤c.base∧c.base≤1000000
      · have hi0:=Lib.hid (inR_iff.2 hbase)
        obtain ⟨hb0,hb1⟩:=hbase
        generalize hx:inR c.expected c.base (c.base+v.q.n)=bx
        have hX:=Lib.hid hx
        clear hx
        go_wp2_with (go_at_call 105;refine (l01In_c _ _ _ _).mono ?_;(first | rw [hi0.out] | rw [hX.out]);rintro e w2 ⟨rfl,rfl⟩)
        all_goals (go_ret;refine ⟨ret_bool ?_,bAlloc (Below.refl _ _) _⟩;rw [E.out,hfin.out,HL0.out,HL2.out,HL3.out,hi0.out,hX.out];first | (simp_all;done) | (simp_all;omega) | (simp_all;rw [Bool.eq_iff_iff];simp;omega))
      · have hi0:Hid (inR c.base 0 1000000=false):=by simpa [Hid,inR] using hbase
        have hff:Hid (isChan c=false):=by rw [Hid,E.out,hi0.out];simp
        clear hbase
        go_wp2_with (go_at_call 105;refine (l01In_c _ _ _ _).mono ?_;rw [hi0.out];rintro e w2 ⟨rfl,rfl⟩)
        all_goals (go_ret;refine ⟨by rw [hff.out];rfl,bAlloc (Below.refl _ _) _⟩)
end Go.Proofs.YtdfemnffpaopfaaGreatDoor
