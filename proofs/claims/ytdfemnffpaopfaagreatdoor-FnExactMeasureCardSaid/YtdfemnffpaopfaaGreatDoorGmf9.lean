/- Texts of this proof, one behind the other: Copy, Take, RemS. -/
import Derived.Test.YtdfemnffpaopfaaGreatDoorGmf6
import Derived.Test.YtdfemnffpaopfaaGreatDoorGmf8
import Derived.Test.YtdfemnffpaopfaaGreatDoorGmf13
namespace Go.Proofs.YtdfemnffpaopfaaGreatDoor
open Go.RowKit
set_option linter.unusedVariables false
set_option linter.unusedSimpArgs false
set_option maxHeartbeats 4000000
set_option maxRecDepth 100000
def upd (L:Nat→Bool) (i:Nat):Nat→Bool:=fun j=>if j=i then true else L j
def lst (listed:Array Bool):Nat→Bool:=fun j=>listed.getD j true
theorem lst_set (listed:Array Bool) (i:Nat):lst (listed.setIfInBounds i true)=upd (lst listed) i:=by
  funext j
  unfold lst upd
  by_cases hj:j=i
  · subst hj
    rcases Nat.lt_or_ge j listed.size with h | h
    · simp [Array.getD,h]
    · rw [Array.getD,dif_neg (by simp;omega)];simp
  · rw [if_neg hj,getD_set_ne true (fun e=>hj e.symm)]
theorem lst_dep {listed:Array Bool} {j:Nat} (h:listed.getD j false=true):lst listed j=true:=by
  unfold lst
  rcases Nat.lt_or_ge j listed.size with h1 | h1
  · simp [Array.getD,h1] at h ⊢;exact h
  · rw [Array.getD,dif_neg (by omega)] at h;cases h
theorem dep_of {md:Region.Mode} {ops:Array Oper} {listed:Array Bool} {i:Nat} {o:Oper} (h:i∈Region.ready md ops listed) (ho:ops[i]? = some o):lst listed i=false∧∀ e∈o.after,Region.binds md e=true→lst listed e.on=true:=by
  obtain ⟨h1,o',ho',hd⟩:=mem_ready.1 h
  rw [ho] at ho'
  obtain rfl:=Option.some.inj ho'
  exact ⟨h1,fun e he hb=>lst_dep (hd e he hb)⟩
structure Lane (bb bc:Bool) (sb sc:Value) (e sz lo:Nat) (w:World) (n:Nat) (css:List (List Value)) (f:List Nat):Prop where
  ord:bc=true→bb=true
  done:bc=true→∃ A c,sc=.slice A n c∧Own w lo e sz A n c css∧f=obl A
  made:bc=false→bb=true→∃ g,sb=.slice (some ⟨g,0,none⟩) 0 0∧Own w lo e sz (some ⟨g,0,none⟩) 0 0 []∧f=[g]
  none_:bb=false→f=[]
theorem Lane.lt {bb bc:Bool} {sb sc:Value} {e sz lo n:Nat} {w:World} {css:List (List Value)} {f:List Nat} (h:Lane bb bc sb sc e sz lo w n css f):∀ k∈f,lo≤k∧k < w.heap.size:=by
  intro k hk
  cases bc with
  | true=>obtain ⟨A,c,_,h1,rfl⟩:=h.done rfl;exact h1.lt k (mem_obl.1 hk)
  | false =>
    cases bb with
    | true=>obtain ⟨g,_,h1,rfl⟩:=h.made rfl rfl;exact h1.lt k (by simp at hk;subst hk;rfl)
    | false=>rw [h.none_ rfl] at hk;cases hk
theorem Lane.keep {bb bc:Bool} {sb sc:Value} {e sz lo n:Nat} {w w':World} {css:List (List Value)} {f:List Nat} (h:Lane bb bc sb sc e sz lo w n css f) (hw:∀ k∈f,w'.heap[k]? = w.heap[k]?):Lane bb bc sb sc e sz lo w' n css f :=
  ⟨h.ord,fun hc=>by obtain ⟨A,c,h1,h2,h3⟩:=h.done hc;exact ⟨A,c,h1,h2.keep fun g hg=>hw g (by rw [h3];exact mem_obl.2 hg),h3⟩,
   fun hc hb=>by obtain ⟨g,h1,h2,h3⟩:=h.made hc hb;exact ⟨g,h1,h2.keep fun k hk=>hw k (by rw [h3];simp [ob] at hk;simp [hk]),h3⟩,h.none_⟩
theorem Lane.build {sc:Value} {e sz lo n:Nat} {w:World} {css:List (List Value)} (hlo:lo≤w.heap.size):Lane true false (.slice (some ⟨w.heap.size,0,none⟩) 0 0) sc e sz lo (w.alloc (.cells #[] e)) n css [w.heap.size] :=
  ⟨nofun,nofun,fun _ _=>⟨w.heap.size,rfl,Own.made0 w e sz hlo,rfl⟩,nofun⟩
theorem Lane.fill {sb:Value} {e sz lo n c:Nat} {w:World} {A:Option Addr} {css:List (List Value)} (h:Own w lo e sz A n c css):Lane true true sb (.slice A n c) e sz lo w n css (obl A) :=
  ⟨fun _=>rfl,fun _=>⟨A,c,rfl,h,rfl⟩,nofun,nofun⟩
structure CpSt (W:World) (B:Nat) (v:CV) (c:Chan) (L:Nat→Bool) (s3 s4 s5 s6 s7 s8 s9 s10 s11 s12 s13 s14 s15 s16 s17 s18 s19 s20 s21 s22 s23:Value) (p:Nat→List Nat) (w:World):Prop where
  f1:L 1=true→s4=.pointer (some ⟨B,0,none⟩)
  f2:L 2=true→s5=.slice v.q.A v.q.n v.q.c
  f4:L 4=true→s7=.pointer (some ⟨B,1,none⟩)
  f5:L 5=true→s8=.int .i64 c.base
  f6:L 6=true→s9=.pointer (some ⟨B,2,none⟩)
  f7:L 7=true→s10=.int .i64 c.expected
  f9:L 9=true→s12=.pointer (some ⟨B,3,none⟩)
  f10:L 10=true→s13=.slice v.i.A v.i.n v.i.c
  f13:L 13=true→s16=.pointer (some ⟨B,4,none⟩)
  f14:L 14=true→s17=.slice v.n.A v.n.n v.n.c
  f17:L 17=true→s20=.pointer (some ⟨B,5,none⟩)
  f18:L 18=true→s21=.slice v.a.A v.a.n v.a.c
  f20:L 20=true→s23=.agg #[s6,s8,s10,s14,s18,s22]
  l0:Lane (L 0) (L 3) s3 s6 9 1 W.heap.size w v.q.n (c.queue.map strCells) (p 0)
  l1:Lane (L 8) (L 11) s11 s14 9 1 W.heap.size w v.i.n (c.inbox.map strCells) (p 1)
  l2:Lane (L 12) (L 15) s15 s18 164 4 W.heap.size w v.n.n (c.net.map Packet.cells) (p 2)
  l3:Lane (L 16) (L 19) s19 s22 164 4 W.heap.size w v.a.n (c.acks.map Packet.cells) (p 3)
  o20:L 20=true→L 3=true∧L 5=true∧L 7=true∧L 11=true∧L 15=true∧L 19=true
  o21:L 21=true→∀ j,j < 21→L j=true
  ap:∀ q r,q < 4→r < 4→q≠r→∀ k∈p q,k ∉ p r
  b0:L 21=false→Below W.heap.size W w
  b1:L 21=true→Upd [B+1] W w∧∀ (j:Nat) (u:Value),[s6,s8,s10,s14,s18,s22][j]? = some u→w.cell? ⟨B+1,j,none⟩=some u
theorem store6 {w:World} {b:Nat} {o0 o1 o2 o3 o4 o5:Value} (v0 v1 v2 v3 v4 v5:Value) (h0:w.cell? ⟨b,0,none⟩=some o0) (h1:w.cell? ⟨b,1,none⟩=some o1) (h2:w.cell? ⟨b,2,none⟩=some o2) (h3:w.cell? ⟨b,3,none⟩=some o3) (h4:w.cell? ⟨b,4,none⟩=some o4) (h5:w.cell? ⟨b,5,none⟩=some o5) :
    Upd [b] w ((((((w.setCell ⟨b,0,none⟩ v0).setCell ⟨b,1,none⟩ v1).setCell ⟨b,2,none⟩ v2).setCell ⟨b,3,none⟩ v3).setCell ⟨b,4,none⟩ v4).setCell ⟨b,5,none⟩ v5) ∧
    ((((((w.setCell ⟨b,0,none⟩ v0).setCell ⟨b,1,none⟩ v1).setCell ⟨b,2,none⟩ v2).setCell ⟨b,3,none⟩ v3).setCell ⟨b,4,none⟩ v4).setCell ⟨b,5,none⟩ v5).cell? ⟨b,0,none⟩=some v0 ∧
    ((((((w.setCell ⟨b,0,none⟩ v0).setCell ⟨b,1,none⟩ v1).setCell ⟨b,2,none⟩ v2).setCell ⟨b,3,none⟩ v3).setCell ⟨b,4,none⟩ v4).setCell ⟨b,5,none⟩ v5).cell? ⟨b,1,none⟩=some v1 ∧
    ((((((w.setCell ⟨b,0,none⟩ v0).setCell ⟨b,1,none⟩ v1).setCell ⟨b,2,none⟩ v2).setCell ⟨b,3,none⟩ v3).setCell ⟨b,4,none⟩ v4).setCell ⟨b,5,none⟩ v5).cell? ⟨b,2,none⟩=some v2 ∧
    ((((((w.setCell ⟨b,0,none⟩ v0).setCell ⟨b,1,none⟩ v1).setCell ⟨b,2,none⟩ v2).setCell ⟨b,3,none⟩ v3).setCell ⟨b,4,none⟩ v4).setCell ⟨b,5,none⟩ v5).cell? ⟨b,3,none⟩=some v3 ∧
    ((((((w.setCell ⟨b,0,none⟩ v0).setCell ⟨b,1,none⟩ v1).setCell ⟨b,2,none⟩ v2).setCell ⟨b,3,none⟩ v3).setCell ⟨b,4,none⟩ v4).setCell ⟨b,5,none⟩ v5).cell? ⟨b,4,none⟩=some v4 ∧
    ((((((w.setCell ⟨b,0,none⟩ v0).setCell ⟨b,1,none⟩ v1).setCell ⟨b,2,none⟩ v2).setCell ⟨b,3,none⟩ v3).setCell ⟨b,4,none⟩ v4).setCell ⟨b,5,none⟩ v5).cell? ⟨b,5,none⟩=some v5:=by
  refine ⟨?_,?_⟩
  · repeat (first | with_reducible exact Upd.refl _ _ | (with_reducible refine Upd.set_in ?_ ?_ _);rotate_left;simp)
  · simp [go_sem,h0,h1,h2,h3,h4,h5]
theorem cells6 {X:World} {b:Nat} {v0 v1 v2 v3 v4 v5:Value} (h0:X.cell? ⟨b,0,none⟩=some v0) (h1:X.cell? ⟨b,1,none⟩=some v1) (h2:X.cell? ⟨b,2,none⟩=some v2) (h3:X.cell? ⟨b,3,none⟩=some v3) (h4:X.cell? ⟨b,4,none⟩=some v4) (h5:X.cell? ⟨b,5,none⟩=some v5) :
    ∀ (j:Nat) (u:Value),[v0,v1,v2,v3,v4,v5][j]? = some u→X.cell? ⟨b,j,none⟩=some u
  | 0,u,h=>by simp at h;subst h;exact h0
  | 1,u,h=>by simp at h;subst h;exact h1
  | 2,u,h=>by simp at h;subst h;exact h2
  | 3,u,h=>by simp at h;subst h;exact h3
  | 4,u,h=>by simp at h;subst h;exact h4
  | 5,u,h=>by simp at h;subst h;exact h5
  | j+6,u,h=>by simp at h
theorem obl_nodup (A:Option Addr):(obl A).Nodup:=by unfold obl;cases ob A <;> simp
theorem fresh4 {p:Nat→List Nat} {lo:Nat} {X:World} {A0 A1 A2 A3:Option Addr} (h:∀ q r,q < 4→r < 4→q≠r→∀ k∈p q,k ∉ p r) (y0:p 0=obl A0) (y1:p 1=obl A1) (y2:p 2=obl A2) (y3:p 3=obl A3)
    (b0:∀ k∈obl A0,lo≤k∧k < X.heap.size) (b1:∀ k∈obl A1,lo≤k∧k < X.heap.size) (b2:∀ k∈obl A2,lo≤k∧k < X.heap.size) (b3:∀ k∈obl A3,lo≤k∧k < X.heap.size):Fresh lo X (obl A0++(obl A1++(obl A2++obl A3))):=by
  have d01:=h 0 1 (by omega) (by omega) (by omega);have d02:=h 0 2 (by omega) (by omega) (by omega);have d03:=h 0 3 (by omega) (by omega) (by omega)
  have d12:=h 1 2 (by omega) (by omega) (by omega);have d13:=h 1 3 (by omega) (by omega) (by omega);have d23:=h 2 3 (by omega) (by omega) (by omega)
  rw [y0,y1] at d01;rw [y0,y2] at d02;rw [y0,y3] at d03;rw [y1,y2] at d12;rw [y1,y3] at d13;rw [y2,y3] at d23
  refine ⟨?_,?_,?_⟩
  · simp only [List.nodup_append,List.mem_append]
    refine ⟨obl_nodup _,⟨obl_nodup _,⟨obl_nodup _,obl_nodup _,fun a ha b hb e=>d23 a ha (e ▸ hb)⟩,fun a ha b hb e=>?_⟩,fun a ha b hb e=>?_⟩
    · subst e;rcases hb with hb | hb
      · exact d12 a ha hb
      · exact d13 a ha hb
    · subst e;rcases hb with hb | hb | hb
      · exact d01 a ha hb
      · exact d02 a ha hb
      · exact d03 a ha hb
  · intro k hk
    simp only [List.mem_append] at hk
    rcases hk with hk | hk | hk | hk
    · exact (b0 k hk).1
    · exact (b1 k hk).1
    · exact (b2 k hk).1
    · exact (b3 k hk).1
  · intro k hk
    simp only [List.mem_append] at hk
    rcases hk with hk | hk | hk | hk
    · exact (b0 k hk).2
    · exact (b1 k hk).2
    · exact (b2 k hk).2
    · exact (b3 k hk).2
theorem ap_new {p:Nat→List Nat} (h:∀ q r,q < 4→r < 4→q≠r→∀ k∈p q,k ∉ p r) {q:Nat} {f:List Nat} (hf:∀ r,r < 4→r≠q→∀ k∈p r,k ∉ f):∀ a b,a < 4→b < 4→a≠b→∀ k∈(if a=q then f else p a),k ∉ (if b=q then f else p b):=by
  intro a b ha hb hne k hk hm
  by_cases h1:a=q
  · rw [if_pos h1] at hk
    rw [if_neg (fun e=>hne (h1.trans e.symm))] at hm
    exact hf b hb (fun e=>hne (h1.trans e.symm)) k hm hk
  · rw [if_neg h1] at hk
    by_cases h2:b=q
    · rw [if_pos h2] at hm;exact hf a ha h1 k hk hm
    · rw [if_neg h2] at hm;exact h a b ha hb hne k hk hm
theorem all_dep {md:Region.Mode} {o:Oper} {L:Nat→Bool} (hd:∀ e∈o.after,Region.binds md e=true→L e.on=true) (hc:((List.range 21).all fun j=>o.after.any fun e=>e.on == j && Region.binds md e)=true):∀ j,j < 21→L j=true:=by
  intro j hj
  have h1:=List.all_eq_true.1 hc j (List.mem_range.2 hj)
  obtain ⟨i,hi,h2⟩:=Array.any_eq_true.1 h1
  simp only [Bool.and_eq_true,beq_iff_eq] at h2
  rw [← h2.1]
  exact hd _ (Array.getElem_mem hi) h2.2
theorem l29Copy_k (v:CV) (c:Chan) (w:World) (hm:fewC c) (hr:RdC w v c) :
    Calls Tryz.prog 104 #[vChan v c.base c.expected] w fun e w'=>∃ v',e=.returned (vChan v' c.base c.expected)∧OwC w' v' c∧Fresh w.heap.size w' (fpC v')∧Below w.heap.size w w':=by
  have m0:v.q.n≤4194304:=by have:=hr.q.len.out;unfold fewC at hm;omega
  have m1:v.i.n≤4194304:=by have:=hr.i.len.out;unfold fewC at hm;omega
  have m2:v.n.n≤4194304:=by have:=hr.n.len.out;unfold fewC at hm;omega
  have m3:v.a.n≤4194304:=by have:=hr.a.len.out;unfold fewC at hm;omega
  obtain ⟨i0,hii,hq0,hq1,hq2⟩:=info_parts info_String
  obtain ⟨j0,hjj,hr0,hr1,hr2⟩:=info_parts info_Packet
  go_enter Tryz.func104,Tryz.ntmps104
  go_wp2_with fail
  refine region_at fun W hW=>?_
  have hWB:Below w.heap.size w W:=by rw [hW.out];exact bAlloc (bAlloc (Below.refl _ _) _) _
  have zW:W.heap.size=w.heap.size+2:=by rw [hW.out];simp
  have g0:W.cell? ⟨w.heap.size,0,none⟩=some (.slice v.q.A v.q.n v.q.c):=by rw [hW.out];simp
  have g1:W.cell? ⟨w.heap.size,1,none⟩=some (.int .i64 c.base):=by rw [hW.out];simp
  have g2:W.cell? ⟨w.heap.size,2,none⟩=some (.int .i64 c.expected):=by rw [hW.out];simp
  have g3:W.cell? ⟨w.heap.size,3,none⟩=some (.slice v.i.A v.i.n v.i.c):=by rw [hW.out];simp
  have g4:W.cell? ⟨w.heap.size,4,none⟩=some (.slice v.n.A v.n.n v.n.c):=by rw [hW.out];simp
  have g5:W.cell? ⟨w.heap.size,5,none⟩=some (.slice v.a.A v.a.n v.a.c):=by rw [hW.out];simp
  have u0:W.cell? ⟨w.heap.size+1,0,none⟩=some (.slice none 0 0):=by rw [hW.out];simp
  have z0:W.frozen? ⟨w.heap.size+1,0,none⟩=false:=by rw [hW.out];simp
  have u1:W.cell? ⟨w.heap.size+1,1,none⟩=some (.int .i64 0):=by rw [hW.out];simp
  have z1:W.frozen? ⟨w.heap.size+1,1,none⟩=false:=by rw [hW.out];simp
  have u2:W.cell? ⟨w.heap.size+1,2,none⟩=some (.int .i64 0):=by rw [hW.out];simp
  have z2:W.frozen? ⟨w.heap.size+1,2,none⟩=false:=by rw [hW.out];simp
  have u3:W.cell? ⟨w.heap.size+1,3,none⟩=some (.slice none 0 0):=by rw [hW.out];simp
  have z3:W.frozen? ⟨w.heap.size+1,3,none⟩=false:=by rw [hW.out];simp
  have u4:W.cell? ⟨w.heap.size+1,4,none⟩=some (.slice none 0 0):=by rw [hW.out];simp
  have z4:W.frozen? ⟨w.heap.size+1,4,none⟩=false:=by rw [hW.out];simp
  have u5:W.cell? ⟨w.heap.size+1,5,none⟩=some (.slice none 0 0):=by rw [hW.out];simp
  have z5:W.frozen? ⟨w.heap.size+1,5,none⟩=false:=by rw [hW.out];simp
  have hrW:=hr.below hWB
  clear hW
  refine wp_region_inv (fun listed a w1=>∃ (s3 s4 s5 s6 s7 s8 s9 s10 s11 s12 s13 s14 s15 s16 s17 s18 s19 s20 s21 s22 s23:Value) (p:Nat→List Nat),a = { tmps:=#[vChan v c.base c.expected,.pointer (some ⟨w.heap.size,0,none⟩),.pointer (some ⟨w.heap.size+1,0,none⟩),s3,s4,s5,s6,s7,s8,s9,s10,s11,s12,s13,s14,s15,s16,s17,s18,s19,s20,s21,s22,s23],defers:=[] }∧CpSt W w.heap.size v c (lst listed) s3 s4 s5 s6 s7 s8 s9 s10 s11 s12 s13 s14 s15 s16 s17 s18 s19 s20 s21 s22 s23 p w1) (by kernel_rfl) ?_ ?_ ?_
  · have hno:∀ j,j < 22→lst (Array.replicate 22 false) j=false:=fun j hj=>by simp [lst,Array.getD,hj]
    refine ⟨undef,undef,undef,undef,undef,undef,undef,undef,undef,undef,undef,undef,undef,undef,undef,undef,undef,undef,undef,undef,undef,fun _=>[],rfl,?_⟩
    show CpSt W w.heap.size v c (lst (Array.replicate 22 false)) _ _ _ _ _ _ _ _ _ _ _ _ _ _ _ _ _ _ _ _ _ _ _
    have hx:∀ j,j < 22→¬ lst (Array.replicate 22 false) j=true:=fun j hj h=>by rw [hno j hj] at h;cases h
    have hl:∀ (a b:Nat),a < 22→b < 22→∀ sb sc e sz n css,Lane (lst (Array.replicate 22 false) a) (lst (Array.replicate 22 false) b) sb sc e sz W.heap.size W.drew n css []:=fun a b ha hb sb sc e sz n css=>⟨fun h=>absurd h (hx b hb),fun h=>absurd h (hx b hb),fun _ h=>absurd h (hx a ha),fun _=>rfl⟩
    exact ⟨fun h=>absurd h (hx 1 (by omega)),fun h=>absurd h (hx 2 (by omega)),fun h=>absurd h (hx 4 (by omega)),fun h=>absurd h (hx 5 (by omega)),fun h=>absurd h (hx 6 (by omega)),fun h=>absurd h (hx 7 (by omega)),fun h=>absurd h (hx 9 (by omega)),fun h=>absurd h (hx 10 (by omega)),fun h=>absurd h (hx 13 (by omega)),fun h=>absurd h (hx 14 (by omega)),fun h=>absurd h (hx 17 (by omega)),fun h=>absurd h (hx 18 (by omega)),fun h=>absurd h (hx 20 (by omega)),hl 0 3 (by omega) (by omega) _ _ _ _ _ _,hl 8 11 (by omega) (by omega) _ _ _ _ _ _,hl 12 15 (by omega) (by omega) _ _ _ _ _ _,hl 16 19 (by omega) (by omega) _ _ _ _ _ _,fun h=>absurd h (hx 20 (by omega)),fun h=>absurd h (hx 21 (by omega)),fun _ _ _ _ _ _ hk=>(nomatch hk),fun _=>bDrew (Below.refl _ _),fun h=>absurd h (hx 21 (by omega))⟩
  · rintro listed a w1 ⟨s3,s4,s5,s6,s7,s8,s9,s10,s11,s12,s13,s14,s15,s16,s17,s18,s19,s20,s21,s22,s23,p,rfl,hI⟩ i hi
    have hi22:i < 22:=by
      obtain ⟨_,o,ho,_⟩:=mem_ready.1 hi
      have:=(Array.getElem?_eq_some_iff.1 ho).1
      simpa using this
    rcases i with _ | _ | _ | _ | _ | _ | _ | _ | _ | _ | _ | _ | _ | _ | _ | _ | _ | _ | _ | _ | _ | _ | _
    · -- operation 0
      obtain ⟨hu,hd⟩:=dep_of hi rfl
      have h21:lst listed 21=false:=by
        cases h:lst listed 21 with
        | false=>rfl
        | true=>have:=hI.o21 h 0 (by omega);rw [hu] at this;cases this
      have hb:=hI.b0 h21
      have LA:lst listed 3=false:=by
        cases h:lst listed 3 with
        | false=>rfl
        | true=>have:=hI.l0.ord h;rw [hu] at this;cases this
      have hlt:∀ r,r < 4→∀ k∈p r,k < w1.heap.size:=fun r hr k hk=>match r,hr,hk with | 0,_,hk=>(hI.l0.lt k hk).2 | 1,_,hk=>(hI.l1.lt k hk).2 | 2,_,hk=>(hI.l2.lt k hk).2 | 3,_,hk=>(hI.l3.lt k hk).2
      refine wpOp_step (o:=_) rfl (fun K hK=>?_)
      go_simp
      exact hK _ _ ⟨_,_,_,_,_,_,_,_,_,_,_,_,_,_,_,_,_,_,_,_,_,fun r=>if r=0 then [w1.heap.size] else p r,rfl,by rw [lst_set];exact ⟨fun h=>hI.f1 (by simpa [upd] using h),fun h=>hI.f2 (by simpa [upd] using h),fun h=>hI.f4 (by simpa [upd] using h),fun h=>hI.f5 (by simpa [upd] using h),fun h=>hI.f6 (by simpa [upd] using h),fun h=>hI.f7 (by simpa [upd] using h),fun h=>hI.f9 (by simpa [upd] using h),fun h=>hI.f10 (by simpa [upd] using h),fun h=>hI.f13 (by simpa [upd] using h),fun h=>hI.f14 (by simpa [upd] using h),fun h=>hI.f17 (by simpa [upd] using h),fun h=>hI.f18 (by simpa [upd] using h),fun h=>hI.f20 (by simpa [upd] using h),by simp only [upd,if_true,if_false,LA,Nat.reduceEqDiff];exact Lane.build hb.size,by simp only [upd,if_false,Nat.reduceEqDiff];exact hI.l1.keep fun k hk=>(bAlloc (Below.refl _ _) _).block k (hI.l1.lt k hk).2,by simp only [upd,if_false,Nat.reduceEqDiff];exact hI.l2.keep fun k hk=>(bAlloc (Below.refl _ _) _).block k (hI.l2.lt k hk).2,by simp only [upd,if_false,Nat.reduceEqDiff];exact hI.l3.keep fun k hk=>(bAlloc (Below.refl _ _) _).block k (hI.l3.lt k hk).2,fun h=>by have:=hI.o20 (by simpa [upd] using h);simp [upd,this.1,this.2.1,this.2.2.1,this.2.2.2.1,this.2.2.2.2.1,this.2.2.2.2.2],fun h=>absurd (hI.o21 (by simpa [upd] using h) 0 (by omega)) (by rw [hu];simp),ap_new hI.ap (q:=0) (f:=[w1.heap.size]) (fun r hr hne k hk hm=>by have:=hlt r hr k hk;simp at hm;omega),fun _=>bAlloc hb _,fun h=>absurd (hI.o21 (by simpa [upd] using h) 0 (by omega)) (by rw [hu];simp)⟩⟩
    · -- operation 1
      obtain ⟨hu,hd⟩:=dep_of hi rfl
      have h21:lst listed 21=false:=by
        cases h:lst listed 21 with
        | false=>rfl
        | true=>have:=hI.o21 h 1 (by omega);rw [hu] at this;cases this
      have hb:=hI.b0 h21
      refine wpOp_step (o:=_) rfl (fun K hK=>?_)
      go_simp
      exact hK _ _ ⟨_,_,_,_,_,_,_,_,_,_,_,_,_,_,_,_,_,_,_,_,_,p,rfl,by rw [lst_set];exact ⟨fun _=>rfl,fun h=>hI.f2 (by simpa [upd] using h),fun h=>hI.f4 (by simpa [upd] using h),fun h=>hI.f5 (by simpa [upd] using h),fun h=>hI.f6 (by simpa [upd] using h),fun h=>hI.f7 (by simpa [upd] using h),fun h=>hI.f9 (by simpa [upd] using h),fun h=>hI.f10 (by simpa [upd] using h),fun h=>hI.f13 (by simpa [upd] using h),fun h=>hI.f14 (by simpa [upd] using h),fun h=>hI.f17 (by simpa [upd] using h),fun h=>hI.f18 (by simpa [upd] using h),fun h=>hI.f20 (by simpa [upd] using h),by simpa [upd] using hI.l0,by simpa [upd] using hI.l1,by simpa [upd] using hI.l2,by simpa [upd] using hI.l3,fun h=>by have:=hI.o20 (by simpa [upd] using h);simp [upd,this.1,this.2.1,this.2.2.1,this.2.2.2.1,this.2.2.2.2.1,this.2.2.2.2.2],fun h=>absurd (hI.o21 (by simpa [upd] using h) 1 (by omega)) (by rw [hu];simp),hI.ap,fun h=>hI.b0 (by simpa [upd] using h),fun h=>absurd (hI.o21 (by simpa [upd] using h) 1 (by omega)) (by rw [hu];simp)⟩⟩
    · -- operation 2
      obtain ⟨hu,hd⟩:=dep_of hi rfl
      have h21:lst listed 21=false:=by
        cases h:lst listed 21 with
        | false=>rfl
        | true=>have:=hI.o21 h 2 (by omega);rw [hu] at this;cases this
      have hb:=hI.b0 h21
      have e1:=hI.f1 (hd ⟨1,Ground.data⟩ (by simp) rfl)
      subst e1
      have gc:w1.cell? ⟨w.heap.size,0,none⟩=some (.slice v.q.A v.q.n v.q.c):=bCell hb g0
      refine wpOp_step (o:=_) rfl (fun K hK=>?_)
      go_simp
      exact hK _ _ ⟨_,_,_,_,_,_,_,_,_,_,_,_,_,_,_,_,_,_,_,_,_,p,rfl,by rw [lst_set];exact ⟨fun _=>rfl,fun _=>rfl,fun h=>hI.f4 (by simpa [upd] using h),fun h=>hI.f5 (by simpa [upd] using h),fun h=>hI.f6 (by simpa [upd] using h),fun h=>hI.f7 (by simpa [upd] using h),fun h=>hI.f9 (by simpa [upd] using h),fun h=>hI.f10 (by simpa [upd] using h),fun h=>hI.f13 (by simpa [upd] using h),fun h=>hI.f14 (by simpa [upd] using h),fun h=>hI.f17 (by simpa [upd] using h),fun h=>hI.f18 (by simpa [upd] using h),fun h=>hI.f20 (by simpa [upd] using h),by simpa [upd] using hI.l0,by simpa [upd] using hI.l1,by simpa [upd] using hI.l2,by simpa [upd] using hI.l3,fun h=>by have:=hI.o20 (by simpa [upd] using h);simp [upd,this.1,this.2.1,this.2.2.1,this.2.2.2.1,this.2.2.2.2.1,this.2.2.2.2.2],fun h=>absurd (hI.o21 (by simpa [upd] using h) 2 (by omega)) (by rw [hu];simp),hI.ap,fun h=>hI.b0 (by simpa [upd] using h),fun h=>absurd (hI.o21 (by simpa [upd] using h) 2 (by omega)) (by rw [hu];simp)⟩⟩
    · -- operation 3
      obtain ⟨hu,hd⟩:=dep_of hi rfl
      have h21:lst listed 21=false:=by
        cases h:lst listed 21 with
        | false=>rfl
        | true=>have:=hI.o21 h 3 (by omega);rw [hu] at this;cases this
      have hb:=hI.b0 h21
      have DB:=(hd ⟨0,Ground.data⟩ (by simp) rfl)
      have e1:=hI.f2 (hd ⟨2,Ground.data⟩ (by simp) rfl)
      obtain ⟨g,e2,hown,hp⟩:=hI.l0.made hu DB
      subst e1
      subst e2
      have hlt:∀ r,r < 4→∀ k∈p r,k < w1.heap.size:=fun r hr k hk=>match r,hr,hk with | 0,_,hk=>(hI.l0.lt k hk).2 | 1,_,hk=>(hI.l1.lt k hk).2 | 2,_,hk=>(hI.l2.lt k hk).2 | 3,_,hk=>(hI.l3.lt k hk).2
      refine wpOp_step (o:=_) rfl (fun K hK=>?_)
      refine step_append rfl (.tmp 3) (.tmp 5) 81 rfl W.heap.size 9 1 16 i0 _ Tryz.underlying81 hii hq0 hq1 hq2 rfl (by omega) (some ⟨g,0,none⟩) 0 0 [] rfl hown v.q.A v.q.n v.q.c (c.queue.map strCells) rfl (Row.below hrW.q hb) (by intro cs hcs;obtain ⟨x,_,rfl⟩:=List.mem_map.1 hcs;rfl) (by intro cs hcs;obtain ⟨x,_,rfl⟩:=List.mem_map.1 hcs;exact one_of rfl) (by simp only [maxLen];omega) (by omega) hb.size ?_
      intro A3 c3 w3 ho hg hat
      simp only [Nat.zero_add,List.nil_append] at ho ⊢
      exact hK _ _ ⟨_,_,_,_,_,_,_,_,_,_,_,_,_,_,_,_,_,_,_,_,_,fun r=>if r=0 then obl A3 else p r,rfl,by rw [lst_set];exact ⟨fun h=>hI.f1 (by simpa [upd] using h),fun _=>rfl,fun h=>hI.f4 (by simpa [upd] using h),fun h=>hI.f5 (by simpa [upd] using h),fun h=>hI.f6 (by simpa [upd] using h),fun h=>hI.f7 (by simpa [upd] using h),fun h=>hI.f9 (by simpa [upd] using h),fun h=>hI.f10 (by simpa [upd] using h),fun h=>hI.f13 (by simpa [upd] using h),fun h=>hI.f14 (by simpa [upd] using h),fun h=>hI.f17 (by simpa [upd] using h),fun h=>hI.f18 (by simpa [upd] using h),fun h=>absurd (hI.o20 (by simpa [upd] using h)) (by intro hc;obtain ⟨c3,c5,c7,c11,c15,c19⟩:=hc;rw [hu] at *;simp_all),by simp only [upd,if_true,if_false,DB,Nat.reduceEqDiff];exact Lane.fill ho,by simp only [upd,if_false,Nat.reduceEqDiff];exact hI.l1.keep fun k hk=>hg.block k (hI.l1.lt k hk).2 (fun e=>by simp [ob] at e;subst e;exact hI.ap 0 1 (by omega) (by omega) (by omega) _ (by rw [hp];simp) hk),by simp only [upd,if_false,Nat.reduceEqDiff];exact hI.l2.keep fun k hk=>hg.block k (hI.l2.lt k hk).2 (fun e=>by simp [ob] at e;subst e;exact hI.ap 0 2 (by omega) (by omega) (by omega) _ (by rw [hp];simp) hk),by simp only [upd,if_false,Nat.reduceEqDiff];exact hI.l3.keep fun k hk=>hg.block k (hI.l3.lt k hk).2 (fun e=>by simp [ob] at e;subst e;exact hI.ap 0 3 (by omega) (by omega) (by omega) _ (by rw [hp];simp) hk),fun h=>by have:=hI.o20 (by simpa [upd] using h);simp [upd,this.1,this.2.1,this.2.2.1,this.2.2.2.1,this.2.2.2.2.1,this.2.2.2.2.2],fun h=>absurd (hI.o21 (by simpa [upd] using h) 3 (by omega)) (by rw [hu];simp),ap_new hI.ap (q:=0) (f:=obl A3) (fun r hr hne k hk hm=>hat.elim (fun h=>hI.ap 0 r (by omega) hr (fun e=>hne e.symm) k (by rw [hp];have:=mem_obl.1 hm;rw [h] at this;simp [ob] at this;simp [this]) hk) (fun h=>by have h8:=hlt r hr k hk;have:=mem_obl.1 hm;rw [h] at this;simp at this;omega)),fun _=>bGrown hb hg (fun k hk=>by simp [ob] at hk;subst hk;exact (hown.lt _ rfl).1),fun h=>absurd (hI.o21 (by simpa [upd] using h) 3 (by omega)) (by rw [hu];simp)⟩⟩
    · -- operation 4
      obtain ⟨hu,hd⟩:=dep_of hi rfl
      have h21:lst listed 21=false:=by
        cases h:lst listed 21 with
        | false=>rfl
        | true=>have:=hI.o21 h 4 (by omega);rw [hu] at this;cases this
      have hb:=hI.b0 h21
      refine wpOp_step (o:=_) rfl (fun K hK=>?_)
      go_simp
      exact hK _ _ ⟨_,_,_,_,_,_,_,_,_,_,_,_,_,_,_,_,_,_,_,_,_,p,rfl,by rw [lst_set];exact ⟨fun h=>hI.f1 (by simpa [upd] using h),fun h=>hI.f2 (by simpa [upd] using h),fun _=>rfl,fun h=>hI.f5 (by simpa [upd] using h),fun h=>hI.f6 (by simpa [upd] using h),fun h=>hI.f7 (by simpa [upd] using h),fun h=>hI.f9 (by simpa [upd] using h),fun h=>hI.f10 (by simpa [upd] using h),fun h=>hI.f13 (by simpa [upd] using h),fun h=>hI.f14 (by simpa [upd] using h),fun h=>hI.f17 (by simpa [upd] using h),fun h=>hI.f18 (by simpa [upd] using h),fun h=>hI.f20 (by simpa [upd] using h),by simpa [upd] using hI.l0,by simpa [upd] using hI.l1,by simpa [upd] using hI.l2,by simpa [upd] using hI.l3,fun h=>by have:=hI.o20 (by simpa [upd] using h);simp [upd,this.1,this.2.1,this.2.2.1,this.2.2.2.1,this.2.2.2.2.1,this.2.2.2.2.2],fun h=>absurd (hI.o21 (by simpa [upd] using h) 4 (by omega)) (by rw [hu];simp),hI.ap,fun h=>hI.b0 (by simpa [upd] using h),fun h=>absurd (hI.o21 (by simpa [upd] using h) 4 (by omega)) (by rw [hu];simp)⟩⟩
    · -- operation 5
      obtain ⟨hu,hd⟩:=dep_of hi rfl
      have h21:lst listed 21=false:=by
        cases h:lst listed 21 with
        | false=>rfl
        | true=>have:=hI.o21 h 5 (by omega);rw [hu] at this;cases this
      have hb:=hI.b0 h21
      have e1:=hI.f4 (hd ⟨4,Ground.data⟩ (by simp) rfl)
      subst e1
      have gc:w1.cell? ⟨w.heap.size,1,none⟩=some (.int .i64 c.base):=bCell hb g1
      refine wpOp_step (o:=_) rfl (fun K hK=>?_)
      go_simp
      exact hK _ _ ⟨_,_,_,_,_,_,_,_,_,_,_,_,_,_,_,_,_,_,_,_,_,p,rfl,by rw [lst_set];exact ⟨fun h=>hI.f1 (by simpa [upd] using h),fun h=>hI.f2 (by simpa [upd] using h),fun _=>rfl,fun _=>rfl,fun h=>hI.f6 (by simpa [upd] using h),fun h=>hI.f7 (by simpa [upd] using h),fun h=>hI.f9 (by simpa [upd] using h),fun h=>hI.f10 (by simpa [upd] using h),fun h=>hI.f13 (by simpa [upd] using h),fun h=>hI.f14 (by simpa [upd] using h),fun h=>hI.f17 (by simpa [upd] using h),fun h=>hI.f18 (by simpa [upd] using h),fun h=>absurd (hI.o20 (by simpa [upd] using h)) (by intro hc;obtain ⟨c3,c5,c7,c11,c15,c19⟩:=hc;rw [hu] at *;simp_all),by simpa [upd] using hI.l0,by simpa [upd] using hI.l1,by simpa [upd] using hI.l2,by simpa [upd] using hI.l3,fun h=>by have:=hI.o20 (by simpa [upd] using h);simp [upd,this.1,this.2.1,this.2.2.1,this.2.2.2.1,this.2.2.2.2.1,this.2.2.2.2.2],fun h=>absurd (hI.o21 (by simpa [upd] using h) 5 (by omega)) (by rw [hu];simp),hI.ap,fun h=>hI.b0 (by simpa [upd] using h),fun h=>absurd (hI.o21 (by simpa [upd] using h) 5 (by omega)) (by rw [hu];simp)⟩⟩
    · -- operation 6
      obtain ⟨hu,hd⟩:=dep_of hi rfl
      have h21:lst listed 21=false:=by
        cases h:lst listed 21 with
        | false=>rfl
        | true=>have:=hI.o21 h 6 (by omega);rw [hu] at this;cases this
      have hb:=hI.b0 h21
      refine wpOp_step (o:=_) rfl (fun K hK=>?_)
      go_simp
      exact hK _ _ ⟨_,_,_,_,_,_,_,_,_,_,_,_,_,_,_,_,_,_,_,_,_,p,rfl,by rw [lst_set];exact ⟨fun h=>hI.f1 (by simpa [upd] using h),fun h=>hI.f2 (by simpa [upd] using h),fun h=>hI.f4 (by simpa [upd] using h),fun h=>hI.f5 (by simpa [upd] using h),fun _=>rfl,fun h=>hI.f7 (by simpa [upd] using h),fun h=>hI.f9 (by simpa [upd] using h),fun h=>hI.f10 (by simpa [upd] using h),fun h=>hI.f13 (by simpa [upd] using h),fun h=>hI.f14 (by simpa [upd] using h),fun h=>hI.f17 (by simpa [upd] using h),fun h=>hI.f18 (by simpa [upd] using h),fun h=>hI.f20 (by simpa [upd] using h),by simpa [upd] using hI.l0,by simpa [upd] using hI.l1,by simpa [upd] using hI.l2,by simpa [upd] using hI.l3,fun h=>by have:=hI.o20 (by simpa [upd] using h);simp [upd,this.1,this.2.1,this.2.2.1,this.2.2.2.1,this.2.2.2.2.1,this.2.2.2.2.2],fun h=>absurd (hI.o21 (by simpa [upd] using h) 6 (by omega)) (by rw [hu];simp),hI.ap,fun h=>hI.b0 (by simpa [upd] using h),fun h=>absurd (hI.o21 (by simpa [upd] using h) 6 (by omega)) (by rw [hu];simp)⟩⟩
    · -- operation 7
      obtain ⟨hu,hd⟩:=dep_of hi rfl
      have h21:lst listed 21=false:=by
        cases h:lst listed 21 with
        | false=>rfl
        | true=>have:=hI.o21 h 7 (by omega);rw [hu] at this;cases this
      have hb:=hI.b0 h21
      have e1:=hI.f6 (hd ⟨6,Ground.data⟩ (by simp) rfl)
      subst e1
      have gc:w1.cell? ⟨w.heap.size,2,none⟩=some (.int .i64 c.expected):=bCell hb g2
      refine wpOp_step (o:=_) rfl (fun K hK=>?_)
      go_simp
      exact hK _ _ ⟨_,_,_,_,_,_,_,_,_,_,_,_,_,_,_,_,_,_,_,_,_,p,rfl,by rw [lst_set];exact ⟨fun h=>hI.f1 (by simpa [upd] using h),fun h=>hI.f2 (by simpa [upd] using h),fun h=>hI.f4 (by simpa [upd] using h),fun h=>hI.f5 (by simpa [upd] using h),fun _=>rfl,fun _=>rfl,fun h=>hI.f9 (by simpa [upd] using h),fun h=>hI.f10 (by simpa [upd] using h),fun h=>hI.f13 (by simpa [upd] using h),fun h=>hI.f14 (by simpa [upd] using h),fun h=>hI.f17 (by simpa [upd] using h),fun h=>hI.f18 (by simpa [upd] using h),fun h=>absurd (hI.o20 (by simpa [upd] using h)) (by intro hc;obtain ⟨c3,c5,c7,c11,c15,c19⟩:=hc;rw [hu] at *;simp_all),by simpa [upd] using hI.l0,by simpa [upd] using hI.l1,by simpa [upd] using hI.l2,by simpa [upd] using hI.l3,fun h=>by have:=hI.o20 (by simpa [upd] using h);simp [upd,this.1,this.2.1,this.2.2.1,this.2.2.2.1,this.2.2.2.2.1,this.2.2.2.2.2],fun h=>absurd (hI.o21 (by simpa [upd] using h) 7 (by omega)) (by rw [hu];simp),hI.ap,fun h=>hI.b0 (by simpa [upd] using h),fun h=>absurd (hI.o21 (by simpa [upd] using h) 7 (by omega)) (by rw [hu];simp)⟩⟩
    · -- operation 8
      obtain ⟨hu,hd⟩:=dep_of hi rfl
      have h21:lst listed 21=false:=by
        cases h:lst listed 21 with
        | false=>rfl
        | true=>have:=hI.o21 h 8 (by omega);rw [hu] at this;cases this
      have hb:=hI.b0 h21
      have LA:lst listed 11=false:=by
        cases h:lst listed 11 with
        | false=>rfl
        | true=>have:=hI.l1.ord h;rw [hu] at this;cases this
      have hlt:∀ r,r < 4→∀ k∈p r,k < w1.heap.size:=fun r hr k hk=>match r,hr,hk with | 0,_,hk=>(hI.l0.lt k hk).2 | 1,_,hk=>(hI.l1.lt k hk).2 | 2,_,hk=>(hI.l2.lt k hk).2 | 3,_,hk=>(hI.l3.lt k hk).2
      refine wpOp_step (o:=_) rfl (fun K hK=>?_)
      go_simp
      exact hK _ _ ⟨_,_,_,_,_,_,_,_,_,_,_,_,_,_,_,_,_,_,_,_,_,fun r=>if r=1 then [w1.heap.size] else p r,rfl,by rw [lst_set];exact ⟨fun h=>hI.f1 (by simpa [upd] using h),fun h=>hI.f2 (by simpa [upd] using h),fun h=>hI.f4 (by simpa [upd] using h),fun h=>hI.f5 (by simpa [upd] using h),fun h=>hI.f6 (by simpa [upd] using h),fun h=>hI.f7 (by simpa [upd] using h),fun h=>hI.f9 (by simpa [upd] using h),fun h=>hI.f10 (by simpa [upd] using h),fun h=>hI.f13 (by simpa [upd] using h),fun h=>hI.f14 (by simpa [upd] using h),fun h=>hI.f17 (by simpa [upd] using h),fun h=>hI.f18 (by simpa [upd] using h),fun h=>hI.f20 (by simpa [upd] using h),by simp only [upd,if_false,Nat.reduceEqDiff];exact hI.l0.keep fun k hk=>(bAlloc (Below.refl _ _) _).block k (hI.l0.lt k hk).2,by simp only [upd,if_true,if_false,LA,Nat.reduceEqDiff];exact Lane.build hb.size,by simp only [upd,if_false,Nat.reduceEqDiff];exact hI.l2.keep fun k hk=>(bAlloc (Below.refl _ _) _).block k (hI.l2.lt k hk).2,by simp only [upd,if_false,Nat.reduceEqDiff];exact hI.l3.keep fun k hk=>(bAlloc (Below.refl _ _) _).block k (hI.l3.lt k hk).2,fun h=>by have:=hI.o20 (by simpa [upd] using h);simp [upd,this.1,this.2.1,this.2.2.1,this.2.2.2.1,this.2.2.2.2.1,this.2.2.2.2.2],fun h=>absurd (hI.o21 (by simpa [upd] using h) 8 (by omega)) (by rw [hu];simp),ap_new hI.ap (q:=1) (f:=[w1.heap.size]) (fun r hr hne k hk hm=>by have:=hlt r hr k hk;simp at hm;omega),fun _=>bAlloc hb _,fun h=>absurd (hI.o21 (by simpa [upd] using h) 8 (by omega)) (by rw [hu];simp)⟩⟩
    · -- operation 9
      obtain ⟨hu,hd⟩:=dep_of hi rfl
      have h21:lst listed 21=false:=by
        cases h:lst listed 21 with
        | false=>rfl
        | true=>have:=hI.o21 h 9 (by omega);rw [hu] at this;cases this
      have hb:=hI.b0 h21
      refine wpOp_step (o:=_) rfl (fun K hK=>?_)
      go_simp
      exact hK _ _ ⟨_,_,_,_,_,_,_,_,_,_,_,_,_,_,_,_,_,_,_,_,_,p,rfl,by rw [lst_set];exact ⟨fun h=>hI.f1 (by simpa [upd] using h),fun h=>hI.f2 (by simpa [upd] using h),fun h=>hI.f4 (by simpa [upd] using h),fun h=>hI.f5 (by simpa [upd] using h),fun h=>hI.f6 (by simpa [upd] using h),fun h=>hI.f7 (by simpa [upd] using h),fun _=>rfl,fun h=>hI.f10 (by simpa [upd] using h),fun h=>hI.f13 (by simpa [upd] using h),fun h=>hI.f14 (by simpa [upd] using h),fun h=>hI.f17 (by simpa [upd] using h),fun h=>hI.f18 (by simpa [upd] using h),fun h=>hI.f20 (by simpa [upd] using h),by simpa [upd] using hI.l0,by simpa [upd] using hI.l1,by simpa [upd] using hI.l2,by simpa [upd] using hI.l3,fun h=>by have:=hI.o20 (by simpa [upd] using h);simp [upd,this.1,this.2.1,this.2.2.1,this.2.2.2.1,this.2.2.2.2.1,this.2.2.2.2.2],fun h=>absurd (hI.o21 (by simpa [upd] using h) 9 (by omega)) (by rw [hu];simp),hI.ap,fun h=>hI.b0 (by simpa [upd] using h),fun h=>absurd (hI.o21 (by simpa [upd] using h) 9 (by omega)) (by rw [hu];simp)⟩⟩
    · -- operation 10
      obtain ⟨hu,hd⟩:=dep_of hi rfl
      have h21:lst listed 21=false:=by
        cases h:lst listed 21 with
        | false=>rfl
        | true=>have:=hI.o21 h 10 (by omega);rw [hu] at this;cases this
      have hb:=hI.b0 h21
      have e1:=hI.f9 (hd ⟨9,Ground.data⟩ (by simp) rfl)
      subst e1
      have gc:w1.cell? ⟨w.heap.size,3,none⟩=some (.slice v.i.A v.i.n v.i.c):=bCell hb g3
      refine wpOp_step (o:=_) rfl (fun K hK=>?_)
      go_simp
      exact hK _ _ ⟨_,_,_,_,_,_,_,_,_,_,_,_,_,_,_,_,_,_,_,_,_,p,rfl,by rw [lst_set];exact ⟨fun h=>hI.f1 (by simpa [upd] using h),fun h=>hI.f2 (by simpa [upd] using h),fun h=>hI.f4 (by simpa [upd] using h),fun h=>hI.f5 (by simpa [upd] using h),fun h=>hI.f6 (by simpa [upd] using h),fun h=>hI.f7 (by simpa [upd] using h),fun _=>rfl,fun _=>rfl,fun h=>hI.f13 (by simpa [upd] using h),fun h=>hI.f14 (by simpa [upd] using h),fun h=>hI.f17 (by simpa [upd] using h),fun h=>hI.f18 (by simpa [upd] using h),fun h=>hI.f20 (by simpa [upd] using h),by simpa [upd] using hI.l0,by simpa [upd] using hI.l1,by simpa [upd] using hI.l2,by simpa [upd] using hI.l3,fun h=>by have:=hI.o20 (by simpa [upd] using h);simp [upd,this.1,this.2.1,this.2.2.1,this.2.2.2.1,this.2.2.2.2.1,this.2.2.2.2.2],fun h=>absurd (hI.o21 (by simpa [upd] using h) 10 (by omega)) (by rw [hu];simp),hI.ap,fun h=>hI.b0 (by simpa [upd] using h),fun h=>absurd (hI.o21 (by simpa [upd] using h) 10 (by omega)) (by rw [hu];simp)⟩⟩
    · -- operation 11
      obtain ⟨hu,hd⟩:=dep_of hi rfl
      have h21:lst listed 21=false:=by
        cases h:lst listed 21 with
        | false=>rfl
        | true=>have:=hI.o21 h 11 (by omega);rw [hu] at this;cases this
      have hb:=hI.b0 h21
      have DB:=(hd ⟨8,Ground.data⟩ (by simp) rfl)
      have e1:=hI.f10 (hd ⟨10,Ground.data⟩ (by simp) rfl)
      obtain ⟨g,e2,hown,hp⟩:=hI.l1.made hu DB
      subst e1
      subst e2
      have hlt:∀ r,r < 4→∀ k∈p r,k < w1.heap.size:=fun r hr k hk=>match r,hr,hk with | 0,_,hk=>(hI.l0.lt k hk).2 | 1,_,hk=>(hI.l1.lt k hk).2 | 2,_,hk=>(hI.l2.lt k hk).2 | 3,_,hk=>(hI.l3.lt k hk).2
      refine wpOp_step (o:=_) rfl (fun K hK=>?_)
      refine step_append rfl (.tmp 11) (.tmp 13) 81 rfl W.heap.size 9 1 16 i0 _ Tryz.underlying81 hii hq0 hq1 hq2 rfl (by omega) (some ⟨g,0,none⟩) 0 0 [] rfl hown v.i.A v.i.n v.i.c (c.inbox.map strCells) rfl (Row.below hrW.i hb) (by intro cs hcs;obtain ⟨x,_,rfl⟩:=List.mem_map.1 hcs;rfl) (by intro cs hcs;obtain ⟨x,_,rfl⟩:=List.mem_map.1 hcs;exact one_of rfl) (by simp only [maxLen];omega) (by omega) hb.size ?_
      intro A3 c3 w3 ho hg hat
      simp only [Nat.zero_add,List.nil_append] at ho ⊢
      exact hK _ _ ⟨_,_,_,_,_,_,_,_,_,_,_,_,_,_,_,_,_,_,_,_,_,fun r=>if r=1 then obl A3 else p r,rfl,by rw [lst_set];exact ⟨fun h=>hI.f1 (by simpa [upd] using h),fun h=>hI.f2 (by simpa [upd] using h),fun h=>hI.f4 (by simpa [upd] using h),fun h=>hI.f5 (by simpa [upd] using h),fun h=>hI.f6 (by simpa [upd] using h),fun h=>hI.f7 (by simpa [upd] using h),fun h=>hI.f9 (by simpa [upd] using h),fun _=>rfl,fun h=>hI.f13 (by simpa [upd] using h),fun h=>hI.f14 (by simpa [upd] using h),fun h=>hI.f17 (by simpa [upd] using h),fun h=>hI.f18 (by simpa [upd] using h),fun h=>absurd (hI.o20 (by simpa [upd] using h)) (by intro hc;obtain ⟨c3,c5,c7,c11,c15,c19⟩:=hc;rw [hu] at *;simp_all),by simp only [upd,if_false,Nat.reduceEqDiff];exact hI.l0.keep fun k hk=>hg.block k (hI.l0.lt k hk).2 (fun e=>by simp [ob] at e;subst e;exact hI.ap 1 0 (by omega) (by omega) (by omega) _ (by rw [hp];simp) hk),by simp only [upd,if_true,if_false,DB,Nat.reduceEqDiff];exact Lane.fill ho,by simp only [upd,if_false,Nat.reduceEqDiff];exact hI.l2.keep fun k hk=>hg.block k (hI.l2.lt k hk).2 (fun e=>by simp [ob] at e;subst e;exact hI.ap 1 2 (by omega) (by omega) (by omega) _ (by rw [hp];simp) hk),by simp only [upd,if_false,Nat.reduceEqDiff];exact hI.l3.keep fun k hk=>hg.block k (hI.l3.lt k hk).2 (fun e=>by simp [ob] at e;subst e;exact hI.ap 1 3 (by omega) (by omega) (by omega) _ (by rw [hp];simp) hk),fun h=>by have:=hI.o20 (by simpa [upd] using h);simp [upd,this.1,this.2.1,this.2.2.1,this.2.2.2.1,this.2.2.2.2.1,this.2.2.2.2.2],fun h=>absurd (hI.o21 (by simpa [upd] using h) 11 (by omega)) (by rw [hu];simp),ap_new hI.ap (q:=1) (f:=obl A3) (fun r hr hne k hk hm=>hat.elim (fun h=>hI.ap 1 r (by omega) hr (fun e=>hne e.symm) k (by rw [hp];have:=mem_obl.1 hm;rw [h] at this;simp [ob] at this;simp [this]) hk) (fun h=>by have h8:=hlt r hr k hk;have:=mem_obl.1 hm;rw [h] at this;simp at this;omega)),fun _=>bGrown hb hg (fun k hk=>by simp [ob] at hk;subst hk;exact (hown.lt _ rfl).1),fun h=>absurd (hI.o21 (by simpa [upd] using h) 11 (by omega)) (by rw [hu];simp)⟩⟩
    · -- operation 12
      obtain ⟨hu,hd⟩:=dep_of hi rfl
      have h21:lst listed 21=false:=by
        cases h:lst listed 21 with
        | false=>rfl
        | true=>have:=hI.o21 h 12 (by omega);rw [hu] at this;cases this
      have hb:=hI.b0 h21
      have LA:lst listed 15=false:=by
        cases h:lst listed 15 with
        | false=>rfl
        | true=>have:=hI.l2.ord h;rw [hu] at this;cases this
      have hlt:∀ r,r < 4→∀ k∈p r,k < w1.heap.size:=fun r hr k hk=>match r,hr,hk with | 0,_,hk=>(hI.l0.lt k hk).2 | 1,_,hk=>(hI.l1.lt k hk).2 | 2,_,hk=>(hI.l2.lt k hk).2 | 3,_,hk=>(hI.l3.lt k hk).2
      refine wpOp_step (o:=_) rfl (fun K hK=>?_)
      go_simp
      exact hK _ _ ⟨_,_,_,_,_,_,_,_,_,_,_,_,_,_,_,_,_,_,_,_,_,fun r=>if r=2 then [w1.heap.size] else p r,rfl,by rw [lst_set];exact ⟨fun h=>hI.f1 (by simpa [upd] using h),fun h=>hI.f2 (by simpa [upd] using h),fun h=>hI.f4 (by simpa [upd] using h),fun h=>hI.f5 (by simpa [upd] using h),fun h=>hI.f6 (by simpa [upd] using h),fun h=>hI.f7 (by simpa [upd] using h),fun h=>hI.f9 (by simpa [upd] using h),fun h=>hI.f10 (by simpa [upd] using h),fun h=>hI.f13 (by simpa [upd] using h),fun h=>hI.f14 (by simpa [upd] using h),fun h=>hI.f17 (by simpa [upd] using h),fun h=>hI.f18 (by simpa [upd] using h),fun h=>hI.f20 (by simpa [upd] using h),by simp only [upd,if_false,Nat.reduceEqDiff];exact hI.l0.keep fun k hk=>(bAlloc (Below.refl _ _) _).block k (hI.l0.lt k hk).2,by simp only [upd,if_false,Nat.reduceEqDiff];exact hI.l1.keep fun k hk=>(bAlloc (Below.refl _ _) _).block k (hI.l1.lt k hk).2,by simp only [upd,if_true,if_false,LA,Nat.reduceEqDiff];exact Lane.build hb.size,by simp only [upd,if_false,Nat.reduceEqDiff];exact hI.l3.keep fun k hk=>(bAlloc (Below.refl _ _) _).block k (hI.l3.lt k hk).2,fun h=>by have:=hI.o20 (by simpa [upd] using h);simp [upd,this.1,this.2.1,this.2.2.1,this.2.2.2.1,this.2.2.2.2.1,this.2.2.2.2.2],fun h=>absurd (hI.o21 (by simpa [upd] using h) 12 (by omega)) (by rw [hu];simp),ap_new hI.ap (q:=2) (f:=[w1.heap.size]) (fun r hr hne k hk hm=>by have:=hlt r hr k hk;simp at hm;omega),fun _=>bAlloc hb _,fun h=>absurd (hI.o21 (by simpa [upd] using h) 12 (by omega)) (by rw [hu];simp)⟩⟩
    · -- operation 13
      obtain ⟨hu,hd⟩:=dep_of hi rfl
      have h21:lst listed 21=false:=by
        cases h:lst listed 21 with
        | false=>rfl
        | true=>have:=hI.o21 h 13 (by omega);rw [hu] at this;cases this
      have hb:=hI.b0 h21
      refine wpOp_step (o:=_) rfl (fun K hK=>?_)
      go_simp
      exact hK _ _ ⟨_,_,_,_,_,_,_,_,_,_,_,_,_,_,_,_,_,_,_,_,_,p,rfl,by rw [lst_set];exact ⟨fun h=>hI.f1 (by simpa [upd] using h),fun h=>hI.f2 (by simpa [upd] using h),fun h=>hI.f4 (by simpa [upd] using h),fun h=>hI.f5 (by simpa [upd] using h),fun h=>hI.f6 (by simpa [upd] using h),fun h=>hI.f7 (by simpa [upd] using h),fun h=>hI.f9 (by simpa [upd] using h),fun h=>hI.f10 (by simpa [upd] using h),fun _=>rfl,fun h=>hI.f14 (by simpa [upd] using h),fun h=>hI.f17 (by simpa [upd] using h),fun h=>hI.f18 (by simpa [upd] using h),fun h=>hI.f20 (by simpa [upd] using h),by simpa [upd] using hI.l0,by simpa [upd] using hI.l1,by simpa [upd] using hI.l2,by simpa [upd] using hI.l3,fun h=>by have:=hI.o20 (by simpa [upd] using h);simp [upd,this.1,this.2.1,this.2.2.1,this.2.2.2.1,this.2.2.2.2.1,this.2.2.2.2.2],fun h=>absurd (hI.o21 (by simpa [upd] using h) 13 (by omega)) (by rw [hu];simp),hI.ap,fun h=>hI.b0 (by simpa [upd] using h),fun h=>absurd (hI.o21 (by simpa [upd] using h) 13 (by omega)) (by rw [hu];simp)⟩⟩
    · -- operation 14
      obtain ⟨hu,hd⟩:=dep_of hi rfl
      have h21:lst listed 21=false:=by
        cases h:lst listed 21 with
        | false=>rfl
        | true=>have:=hI.o21 h 14 (by omega);rw [hu] at this;cases this
      have hb:=hI.b0 h21
      have e1:=hI.f13 (hd ⟨13,Ground.data⟩ (by simp) rfl)
      subst e1
      have gc:w1.cell? ⟨w.heap.size,4,none⟩=some (.slice v.n.A v.n.n v.n.c):=bCell hb g4
      refine wpOp_step (o:=_) rfl (fun K hK=>?_)
      go_simp
      exact hK _ _ ⟨_,_,_,_,_,_,_,_,_,_,_,_,_,_,_,_,_,_,_,_,_,p,rfl,by rw [lst_set];exact ⟨fun h=>hI.f1 (by simpa [upd] using h),fun h=>hI.f2 (by simpa [upd] using h),fun h=>hI.f4 (by simpa [upd] using h),fun h=>hI.f5 (by simpa [upd] using h),fun h=>hI.f6 (by simpa [upd] using h),fun h=>hI.f7 (by simpa [upd] using h),fun h=>hI.f9 (by simpa [upd] using h),fun h=>hI.f10 (by simpa [upd] using h),fun _=>rfl,fun _=>rfl,fun h=>hI.f17 (by simpa [upd] using h),fun h=>hI.f18 (by simpa [upd] using h),fun h=>hI.f20 (by simpa [upd] using h),by simpa [upd] using hI.l0,by simpa [upd] using hI.l1,by simpa [upd] using hI.l2,by simpa [upd] using hI.l3,fun h=>by have:=hI.o20 (by simpa [upd] using h);simp [upd,this.1,this.2.1,this.2.2.1,this.2.2.2.1,this.2.2.2.2.1,this.2.2.2.2.2],fun h=>absurd (hI.o21 (by simpa [upd] using h) 14 (by omega)) (by rw [hu];simp),hI.ap,fun h=>hI.b0 (by simpa [upd] using h),fun h=>absurd (hI.o21 (by simpa [upd] using h) 14 (by omega)) (by rw [hu];simp)⟩⟩
    · -- operation 15
      obtain ⟨hu,hd⟩:=dep_of hi rfl
      have h21:lst listed 21=false:=by
        cases h:lst listed 21 with
        | false=>rfl
        | true=>have:=hI.o21 h 15 (by omega);rw [hu] at this;cases this
      have hb:=hI.b0 h21
      have DB:=(hd ⟨12,Ground.data⟩ (by simp) rfl)
      have e1:=hI.f14 (hd ⟨14,Ground.data⟩ (by simp) rfl)
      obtain ⟨g,e2,hown,hp⟩:=hI.l2.made hu DB
      subst e1
      subst e2
      have hlt:∀ r,r < 4→∀ k∈p r,k < w1.heap.size:=fun r hr k hk=>match r,hr,hk with | 0,_,hk=>(hI.l0.lt k hk).2 | 1,_,hk=>(hI.l1.lt k hk).2 | 2,_,hk=>(hI.l2.lt k hk).2 | 3,_,hk=>(hI.l3.lt k hk).2
      refine wpOp_step (o:=_) rfl (fun K hK=>?_)
      refine step_append rfl (.tmp 15) (.tmp 17) 82 rfl W.heap.size 164 4 40 j0 _ Tryz.underlying82 hjj hr0 hr1 hr2 rfl (by omega) (some ⟨g,0,none⟩) 0 0 [] rfl hown v.n.A v.n.n v.n.c (c.net.map Packet.cells) rfl (Row.below hrW.n hb) (by intro cs hcs;obtain ⟨x,_,rfl⟩:=List.mem_map.1 hcs;rfl) (by intro cs hcs;obtain ⟨x,_,rfl⟩:=List.mem_map.1 hcs;exact one_of rfl) (by simp only [maxLen];omega) (by omega) hb.size ?_
      intro A3 c3 w3 ho hg hat
      simp only [Nat.zero_add,List.nil_append] at ho ⊢
      exact hK _ _ ⟨_,_,_,_,_,_,_,_,_,_,_,_,_,_,_,_,_,_,_,_,_,fun r=>if r=2 then obl A3 else p r,rfl,by rw [lst_set];exact ⟨fun h=>hI.f1 (by simpa [upd] using h),fun h=>hI.f2 (by simpa [upd] using h),fun h=>hI.f4 (by simpa [upd] using h),fun h=>hI.f5 (by simpa [upd] using h),fun h=>hI.f6 (by simpa [upd] using h),fun h=>hI.f7 (by simpa [upd] using h),fun h=>hI.f9 (by simpa [upd] using h),fun h=>hI.f10 (by simpa [upd] using h),fun h=>hI.f13 (by simpa [upd] using h),fun _=>rfl,fun h=>hI.f17 (by simpa [upd] using h),fun h=>hI.f18 (by simpa [upd] using h),fun h=>absurd (hI.o20 (by simpa [upd] using h)) (by intro hc;obtain ⟨c3,c5,c7,c11,c15,c19⟩:=hc;rw [hu] at *;simp_all),by simp only [upd,if_false,Nat.reduceEqDiff];exact hI.l0.keep fun k hk=>hg.block k (hI.l0.lt k hk).2 (fun e=>by simp [ob] at e;subst e;exact hI.ap 2 0 (by omega) (by omega) (by omega) _ (by rw [hp];simp) hk),by simp only [upd,if_false,Nat.reduceEqDiff];exact hI.l1.keep fun k hk=>hg.block k (hI.l1.lt k hk).2 (fun e=>by simp [ob] at e;subst e;exact hI.ap 2 1 (by omega) (by omega) (by omega) _ (by rw [hp];simp) hk),by simp only [upd,if_true,if_false,DB,Nat.reduceEqDiff];exact Lane.fill ho,by simp only [upd,if_false,Nat.reduceEqDiff];exact hI.l3.keep fun k hk=>hg.block k (hI.l3.lt k hk).2 (fun e=>by simp [ob] at e;subst e;exact hI.ap 2 3 (by omega) (by omega) (by omega) _ (by rw [hp];simp) hk),fun h=>by have:=hI.o20 (by simpa [upd] using h);simp [upd,this.1,this.2.1,this.2.2.1,this.2.2.2.1,this.2.2.2.2.1,this.2.2.2.2.2],fun h=>absurd (hI.o21 (by simpa [upd] using h) 15 (by omega)) (by rw [hu];simp),ap_new hI.ap (q:=2) (f:=obl A3) (fun r hr hne k hk hm=>hat.elim (fun h=>hI.ap 2 r (by omega) hr (fun e=>hne e.symm) k (by rw [hp];have:=mem_obl.1 hm;rw [h] at this;simp [ob] at this;simp [this]) hk) (fun h=>by have h8:=hlt r hr k hk;have:=mem_obl.1 hm;rw [h] at this;simp at this;omega)),fun _=>bGrown hb hg (fun k hk=>by simp [ob] at hk;subst hk;exact (hown.lt _ rfl).1),fun h=>absurd (hI.o21 (by simpa [upd] using h) 15 (by omega)) (by rw [hu];simp)⟩⟩
    · -- operation 16
      obtain ⟨hu,hd⟩:=dep_of hi rfl
      have h21:lst listed 21=false:=by
        cases h:lst listed 21 with
        | false=>rfl
        | true=>have:=hI.o21 h 16 (by omega);rw [hu] at this;cases this
      have hb:=hI.b0 h21
      have LA:lst listed 19=false:=by
        cases h:lst listed 19 with
        | false=>rfl
        | true=>have:=hI.l3.ord h;rw [hu] at this;cases this
      have hlt:∀ r,r < 4→∀ k∈p r,k < w1.heap.size:=fun r hr k hk=>match r,hr,hk with | 0,_,hk=>(hI.l0.lt k hk).2 | 1,_,hk=>(hI.l1.lt k hk).2 | 2,_,hk=>(hI.l2.lt k hk).2 | 3,_,hk=>(hI.l3.lt k hk).2
      refine wpOp_step (o:=_) rfl (fun K hK=>?_)
      go_simp
      exact hK _ _ ⟨_,_,_,_,_,_,_,_,_,_,_,_,_,_,_,_,_,_,_,_,_,fun r=>if r=3 then [w1.heap.size] else p r,rfl,by rw [lst_set];exact ⟨fun h=>hI.f1 (by simpa [upd] using h),fun h=>hI.f2 (by simpa [upd] using h),fun h=>hI.f4 (by simpa [upd] using h),fun h=>hI.f5 (by simpa [upd] using h),fun h=>hI.f6 (by simpa [upd] using h),fun h=>hI.f7 (by simpa [upd] using h),fun h=>hI.f9 (by simpa [upd] using h),fun h=>hI.f10 (by simpa [upd] using h),fun h=>hI.f13 (by simpa [upd] using h),fun h=>hI.f14 (by simpa [upd] using h),fun h=>hI.f17 (by simpa [upd] using h),fun h=>hI.f18 (by simpa [upd] using h),fun h=>hI.f20 (by simpa [upd] using h),by simp only [upd,if_false,Nat.reduceEqDiff];exact hI.l0.keep fun k hk=>(bAlloc (Below.refl _ _) _).block k (hI.l0.lt k hk).2,by simp only [upd,if_false,Nat.reduceEqDiff];exact hI.l1.keep fun k hk=>(bAlloc (Below.refl _ _) _).block k (hI.l1.lt k hk).2,by simp only [upd,if_false,Nat.reduceEqDiff];exact hI.l2.keep fun k hk=>(bAlloc (Below.refl _ _) _).block k (hI.l2.lt k hk).2,by simp only [upd,if_true,if_false,LA,Nat.reduceEqDiff];exact Lane.build hb.size,fun h=>by have:=hI.o20 (by simpa [upd] using h);simp [upd,this.1,this.2.1,this.2.2.1,this.2.2.2.1,this.2.2.2.2.1,this.2.2.2.2.2],fun h=>absurd (hI.o21 (by simpa [upd] using h) 16 (by omega)) (by rw [hu];simp),ap_new hI.ap (q:=3) (f:=[w1.heap.size]) (fun r hr hne k hk hm=>by have:=hlt r hr k hk;simp at hm;omega),fun _=>bAlloc hb _,fun h=>absurd (hI.o21 (by simpa [upd] using h) 16 (by omega)) (by rw [hu];simp)⟩⟩
    · -- operation 17
      obtain ⟨hu,hd⟩:=dep_of hi rfl
      have h21:lst listed 21=false:=by
        cases h:lst listed 21 with
        | false=>rfl
        | true=>have:=hI.o21 h 17 (by omega);rw [hu] at this;cases this
      have hb:=hI.b0 h21
      refine wpOp_step (o:=_) rfl (fun K hK=>?_)
      go_simp
      exact hK _ _ ⟨_,_,_,_,_,_,_,_,_,_,_,_,_,_,_,_,_,_,_,_,_,p,rfl,by rw [lst_set];exact ⟨fun h=>hI.f1 (by simpa [upd] using h),fun h=>hI.f2 (by simpa [upd] using h),fun h=>hI.f4 (by simpa [upd] using h),fun h=>hI.f5 (by simpa [upd] using h),fun h=>hI.f6 (by simpa [upd] using h),fun h=>hI.f7 (by simpa [upd] using h),fun h=>hI.f9 (by simpa [upd] using h),fun h=>hI.f10 (by simpa [upd] using h),fun h=>hI.f13 (by simpa [upd] using h),fun h=>hI.f14 (by simpa [upd] using h),fun _=>rfl,fun h=>hI.f18 (by simpa [upd] using h),fun h=>hI.f20 (by simpa [upd] using h),by simpa [upd] using hI.l0,by simpa [upd] using hI.l1,by simpa [upd] using hI.l2,by simpa [upd] using hI.l3,fun h=>by have:=hI.o20 (by simpa [upd] using h);simp [upd,this.1,this.2.1,this.2.2.1,this.2.2.2.1,this.2.2.2.2.1,this.2.2.2.2.2],fun h=>absurd (hI.o21 (by simpa [upd] using h) 17 (by omega)) (by rw [hu];simp),hI.ap,fun h=>hI.b0 (by simpa [upd] using h),fun h=>absurd (hI.o21 (by simpa [upd] using h) 17 (by omega)) (by rw [hu];simp)⟩⟩
    · -- operation 18
      obtain ⟨hu,hd⟩:=dep_of hi rfl
      have h21:lst listed 21=false:=by
        cases h:lst listed 21 with
        | false=>rfl
        | true=>have:=hI.o21 h 18 (by omega);rw [hu] at this;cases this
      have hb:=hI.b0 h21
      have e1:=hI.f17 (hd ⟨17,Ground.data⟩ (by simp) rfl)
      subst e1
      have gc:w1.cell? ⟨w.heap.size,5,none⟩=some (.slice v.a.A v.a.n v.a.c):=bCell hb g5
      refine wpOp_step (o:=_) rfl (fun K hK=>?_)
      go_simp
      exact hK _ _ ⟨_,_,_,_,_,_,_,_,_,_,_,_,_,_,_,_,_,_,_,_,_,p,rfl,by rw [lst_set];exact ⟨fun h=>hI.f1 (by simpa [upd] using h),fun h=>hI.f2 (by simpa [upd] using h),fun h=>hI.f4 (by simpa [upd] using h),fun h=>hI.f5 (by simpa [upd] using h),fun h=>hI.f6 (by simpa [upd] using h),fun h=>hI.f7 (by simpa [upd] using h),fun h=>hI.f9 (by simpa [upd] using h),fun h=>hI.f10 (by simpa [upd] using h),fun h=>hI.f13 (by simpa [upd] using h),fun h=>hI.f14 (by simpa [upd] using h),fun _=>rfl,fun _=>rfl,fun h=>hI.f20 (by simpa [upd] using h),by simpa [upd] using hI.l0,by simpa [upd] using hI.l1,by simpa [upd] using hI.l2,by simpa [upd] using hI.l3,fun h=>by have:=hI.o20 (by simpa [upd] using h);simp [upd,this.1,this.2.1,this.2.2.1,this.2.2.2.1,this.2.2.2.2.1,this.2.2.2.2.2],fun h=>absurd (hI.o21 (by simpa [upd] using h) 18 (by omega)) (by rw [hu];simp),hI.ap,fun h=>hI.b0 (by simpa [upd] using h),fun h=>absurd (hI.o21 (by simpa [upd] using h) 18 (by omega)) (by rw [hu];simp)⟩⟩
    · -- operation 19
      obtain ⟨hu,hd⟩:=dep_of hi rfl
      have h21:lst listed 21=false:=by
        cases h:lst listed 21 with
        | false=>rfl
        | true=>have:=hI.o21 h 19 (by omega);rw [hu] at this;cases this
      have hb:=hI.b0 h21
      have DB:=(hd ⟨16,Ground.data⟩ (by simp) rfl)
      have e1:=hI.f18 (hd ⟨18,Ground.data⟩ (by simp) rfl)
      obtain ⟨g,e2,hown,hp⟩:=hI.l3.made hu DB
      subst e1
      subst e2
      have hlt:∀ r,r < 4→∀ k∈p r,k < w1.heap.size:=fun r hr k hk=>match r,hr,hk with | 0,_,hk=>(hI.l0.lt k hk).2 | 1,_,hk=>(hI.l1.lt k hk).2 | 2,_,hk=>(hI.l2.lt k hk).2 | 3,_,hk=>(hI.l3.lt k hk).2
      refine wpOp_step (o:=_) rfl (fun K hK=>?_)
      refine step_append rfl (.tmp 19) (.tmp 21) 82 rfl W.heap.size 164 4 40 j0 _ Tryz.underlying82 hjj hr0 hr1 hr2 rfl (by omega) (some ⟨g,0,none⟩) 0 0 [] rfl hown v.a.A v.a.n v.a.c (c.acks.map Packet.cells) rfl (Row.below hrW.a hb) (by intro cs hcs;obtain ⟨x,_,rfl⟩:=List.mem_map.1 hcs;rfl) (by intro cs hcs;obtain ⟨x,_,rfl⟩:=List.mem_map.1 hcs;exact one_of rfl) (by simp only [maxLen];omega) (by omega) hb.size ?_
      intro A3 c3 w3 ho hg hat
      simp only [Nat.zero_add,List.nil_append] at ho ⊢
      exact hK _ _ ⟨_,_,_,_,_,_,_,_,_,_,_,_,_,_,_,_,_,_,_,_,_,fun r=>if r=3 then obl A3 else p r,rfl,by rw [lst_set];exact ⟨fun h=>hI.f1 (by simpa [upd] using h),fun h=>hI.f2 (by simpa [upd] using h),fun h=>hI.f4 (by simpa [upd] using h),fun h=>hI.f5 (by simpa [upd] using h),fun h=>hI.f6 (by simpa [upd] using h),fun h=>hI.f7 (by simpa [upd] using h),fun h=>hI.f9 (by simpa [upd] using h),fun h=>hI.f10 (by simpa [upd] using h),fun h=>hI.f13 (by simpa [upd] using h),fun h=>hI.f14 (by simpa [upd] using h),fun h=>hI.f17 (by simpa [upd] using h),fun _=>rfl,fun h=>absurd (hI.o20 (by simpa [upd] using h)) (by intro hc;obtain ⟨c3,c5,c7,c11,c15,c19⟩:=hc;rw [hu] at *;simp_all),by simp only [upd,if_false,Nat.reduceEqDiff];exact hI.l0.keep fun k hk=>hg.block k (hI.l0.lt k hk).2 (fun e=>by simp [ob] at e;subst e;exact hI.ap 3 0 (by omega) (by omega) (by omega) _ (by rw [hp];simp) hk),by simp only [upd,if_false,Nat.reduceEqDiff];exact hI.l1.keep fun k hk=>hg.block k (hI.l1.lt k hk).2 (fun e=>by simp [ob] at e;subst e;exact hI.ap 3 1 (by omega) (by omega) (by omega) _ (by rw [hp];simp) hk),by simp only [upd,if_false,Nat.reduceEqDiff];exact hI.l2.keep fun k hk=>hg.block k (hI.l2.lt k hk).2 (fun e=>by simp [ob] at e;subst e;exact hI.ap 3 2 (by omega) (by omega) (by omega) _ (by rw [hp];simp) hk),by simp only [upd,if_true,if_false,DB,Nat.reduceEqDiff];exact Lane.fill ho,fun h=>by have:=hI.o20 (by simpa [upd] using h);simp [upd,this.1,this.2.1,this.2.2.1,this.2.2.2.1,this.2.2.2.2.1,this.2.2.2.2.2],fun h=>absurd (hI.o21 (by simpa [upd] using h) 19 (by omega)) (by rw [hu];simp),ap_new hI.ap (q:=3) (f:=obl A3) (fun r hr hne k hk hm=>hat.elim (fun h=>hI.ap 3 r (by omega) hr (fun e=>hne e.symm) k (by rw [hp];have:=mem_obl.1 hm;rw [h] at this;simp [ob] at this;simp [this]) hk) (fun h=>by have h8:=hlt r hr k hk;have:=mem_obl.1 hm;rw [h] at this;simp at this;omega)),fun _=>bGrown hb hg (fun k hk=>by simp [ob] at hk;subst hk;exact (hown.lt _ rfl).1),fun h=>absurd (hI.o21 (by simpa [upd] using h) 19 (by omega)) (by rw [hu];simp)⟩⟩
    · -- operation 20
      obtain ⟨hu,hd⟩:=dep_of hi rfl
      have h21:lst listed 21=false:=by
        cases h:lst listed 21 with
        | false=>rfl
        | true=>have:=hI.o21 h 20 (by omega);rw [hu] at this;cases this
      have hb:=hI.b0 h21
      have D3:=(hd ⟨3,Ground.data⟩ (by simp) rfl)
      have D5:=(hd ⟨5,Ground.data⟩ (by simp) rfl)
      have D7:=(hd ⟨7,Ground.data⟩ (by simp) rfl)
      have D11:=(hd ⟨11,Ground.data⟩ (by simp) rfl)
      have D15:=(hd ⟨15,Ground.data⟩ (by simp) rfl)
      have D19:=(hd ⟨19,Ground.data⟩ (by simp) rfl)
      have e5:=hI.f5 D5
      have e7:=hI.f7 D7
      subst e5 e7
      obtain ⟨A0,c0,e0,x0,y0⟩:=hI.l0.done D3
      obtain ⟨A1,c1,e1,x1,y1⟩:=hI.l1.done D11
      obtain ⟨A2,c2,e2,x2,y2⟩:=hI.l2.done D15
      obtain ⟨A3,c3,e3,x3,y3⟩:=hI.l3.done D19
      subst e0 e1 e2 e3
      refine wpOp_step (o:=_) rfl (fun K hK=>?_)
      go_simp
      exact hK _ _ ⟨_,_,_,_,_,_,_,_,_,_,_,_,_,_,_,_,_,_,_,_,_,p,rfl,by rw [lst_set];exact ⟨fun h=>hI.f1 (by simpa [upd] using h),fun h=>hI.f2 (by simpa [upd] using h),fun h=>hI.f4 (by simpa [upd] using h),fun _=>rfl,fun h=>hI.f6 (by simpa [upd] using h),fun _=>rfl,fun h=>hI.f9 (by simpa [upd] using h),fun h=>hI.f10 (by simpa [upd] using h),fun h=>hI.f13 (by simpa [upd] using h),fun h=>hI.f14 (by simpa [upd] using h),fun h=>hI.f17 (by simpa [upd] using h),fun h=>hI.f18 (by simpa [upd] using h),fun _=>rfl,by simpa [upd] using hI.l0,by simpa [upd] using hI.l1,by simpa [upd] using hI.l2,by simpa [upd] using hI.l3,fun _=>by simp [upd,D3,D5,D7,D11,D15,D19],fun h=>absurd (hI.o21 (by simpa [upd] using h) 20 (by omega)) (by rw [hu];simp),hI.ap,fun h=>hI.b0 (by simpa [upd] using h),fun h=>absurd (hI.o21 (by simpa [upd] using h) 20 (by omega)) (by rw [hu];simp)⟩⟩
    · -- operation 21
      obtain ⟨hu,hd⟩:=dep_of hi rfl
      have hD:∀ j,j < 21→lst listed j=true:=by
        intro j hj
        have hx:=all_dep hd (by kernel_rfl) j hj
        exact hx
      have hb:=hI.b0 hu
      have e20:=hI.f20 (hD 20 (by omega))
      have e5:=hI.f5 (hD 5 (by omega))
      have e7:=hI.f7 (hD 7 (by omega))
      subst e20
      subst e5 e7
      obtain ⟨A0,c0,e0,x0,y0⟩:=hI.l0.done (hD 3 (by omega))
      obtain ⟨A1,c1,e1,x1,y1⟩:=hI.l1.done (hD 11 (by omega))
      obtain ⟨A2,c2,e2,x2,y2⟩:=hI.l2.done (hD 15 (by omega))
      obtain ⟨A3,c3,e3,x3,y3⟩:=hI.l3.done (hD 19 (by omega))
      subst e0 e1 e2 e3
      have k0:w1.cell? ⟨w.heap.size+1,0,none⟩=W.cell? ⟨w.heap.size+1,0,none⟩:=bBox hb (w.heap.size+1) (by omega) 0
      have q0:w1.frozen? ⟨w.heap.size+1,0,none⟩=false:=(bBoxF hb (w.heap.size+1) (by omega) 0).trans z0
      rw [u0] at k0
      have k1:w1.cell? ⟨w.heap.size+1,1,none⟩=W.cell? ⟨w.heap.size+1,1,none⟩:=bBox hb (w.heap.size+1) (by omega) 1
      have q1:w1.frozen? ⟨w.heap.size+1,1,none⟩=false:=(bBoxF hb (w.heap.size+1) (by omega) 1).trans z1
      rw [u1] at k1
      have k2:w1.cell? ⟨w.heap.size+1,2,none⟩=W.cell? ⟨w.heap.size+1,2,none⟩:=bBox hb (w.heap.size+1) (by omega) 2
      have q2:w1.frozen? ⟨w.heap.size+1,2,none⟩=false:=(bBoxF hb (w.heap.size+1) (by omega) 2).trans z2
      rw [u2] at k2
      have k3:w1.cell? ⟨w.heap.size+1,3,none⟩=W.cell? ⟨w.heap.size+1,3,none⟩:=bBox hb (w.heap.size+1) (by omega) 3
      have q3:w1.frozen? ⟨w.heap.size+1,3,none⟩=false:=(bBoxF hb (w.heap.size+1) (by omega) 3).trans z3
      rw [u3] at k3
      have k4:w1.cell? ⟨w.heap.size+1,4,none⟩=W.cell? ⟨w.heap.size+1,4,none⟩:=bBox hb (w.heap.size+1) (by omega) 4
      have q4:w1.frozen? ⟨w.heap.size+1,4,none⟩=false:=(bBoxF hb (w.heap.size+1) (by omega) 4).trans z4
      rw [u4] at k4
      have k5:w1.cell? ⟨w.heap.size+1,5,none⟩=W.cell? ⟨w.heap.size+1,5,none⟩:=bBox hb (w.heap.size+1) (by omega) 5
      have q5:w1.frozen? ⟨w.heap.size+1,5,none⟩=false:=(bBoxF hb (w.heap.size+1) (by omega) 5).trans z5
      rw [u5] at k5
      refine wpOp_step (o:=_) rfl (fun K hK=>?_)
      go_simp
      obtain ⟨U,r0,r1,r2,r3,r4,r5⟩:=store6 (.slice A0 v.q.n c0) (.int .i64 c.base) (.int .i64 c.expected) (.slice A1 v.i.n c1) (.slice A2 v.n.n c2) (.slice A3 v.a.n c3) k0 k1 k2 k3 k4 k5
      exact hK _ _ ⟨_,_,_,_,_,_,_,_,_,_,_,_,_,_,_,_,_,_,_,_,_,p,rfl,by rw [lst_set];exact ⟨fun h=>hI.f1 (by simpa [upd] using h),fun h=>hI.f2 (by simpa [upd] using h),fun h=>hI.f4 (by simpa [upd] using h),fun _=>rfl,fun h=>hI.f6 (by simpa [upd] using h),fun _=>rfl,fun h=>hI.f9 (by simpa [upd] using h),fun h=>hI.f10 (by simpa [upd] using h),fun h=>hI.f13 (by simpa [upd] using h),fun h=>hI.f14 (by simpa [upd] using h),fun h=>hI.f17 (by simpa [upd] using h),fun h=>hI.f18 (by simpa [upd] using h),fun _=>rfl,by simp only [upd,if_false,Nat.reduceEqDiff];exact hI.l0.keep fun k hk=>U.block k (hI.l0.lt k hk).2 (fun hm=>by have:=(hI.l0.lt k hk).1;simp at hm;omega),by simp only [upd,if_false,Nat.reduceEqDiff];exact hI.l1.keep fun k hk=>U.block k (hI.l1.lt k hk).2 (fun hm=>by have:=(hI.l1.lt k hk).1;simp at hm;omega),by simp only [upd,if_false,Nat.reduceEqDiff];exact hI.l2.keep fun k hk=>U.block k (hI.l2.lt k hk).2 (fun hm=>by have:=(hI.l2.lt k hk).1;simp at hm;omega),by simp only [upd,if_false,Nat.reduceEqDiff];exact hI.l3.keep fun k hk=>U.block k (hI.l3.lt k hk).2 (fun hm=>by have:=(hI.l3.lt k hk).1;simp at hm;omega),fun h=>by have:=hI.o20 (hD 20 (by omega));simp [upd,this.1,this.2.1,this.2.2.1,this.2.2.2.1,this.2.2.2.2.1,this.2.2.2.2.2],fun _ j hj=>by have:=hD j hj;simp [upd,this],hI.ap,fun h=>absurd h (by simp [upd]),fun _=>⟨(Upd.of_below hb).trans U,cells6 r0 r1 r2 r3 r4 r5⟩⟩⟩
    · omega
  · rintro listed a w1 ⟨s3,s4,s5,s6,s7,s8,s9,s10,s11,s12,s13,s14,s15,s16,s17,s18,s19,s20,s21,s22,s23,p,rfl,hI⟩ hn
    have hall:=ready_nil hn (by kernel_rfl) 22
    have hD:∀ j,j < 22→lst listed j=true:=fun j hj=>hall j hj (by simpa using hj)
    obtain ⟨U,hc⟩:=hI.b1 (hD 21 (by omega))
    have e5:=hI.f5 (hD 5 (by omega))
    have e7:=hI.f7 (hD 7 (by omega))
    obtain ⟨A0,c0,e0,x0,y0⟩:=hI.l0.done (hD 3 (by omega))
    obtain ⟨A1,c1,e1,x1,y1⟩:=hI.l1.done (hD 11 (by omega))
    obtain ⟨A2,c2,e2,x2,y2⟩:=hI.l2.done (hD 15 (by omega))
    obtain ⟨A3,c3,e3,x3,y3⟩:=hI.l3.done (hD 19 (by omega))
    subst e0 e1 e2 e3
    subst e5 e7
    have r0:=hc 0 _ rfl
    have r1:=hc 1 _ rfl
    have r2:=hc 2 _ rfl
    have r3:=hc 3 _ rfl
    have r4:=hc 4 _ rfl
    have r5:=hc 5 _ rfl
    have hap:=hI.ap
    clear hc hI hn hall hD
    go_wp2_with fail
    refine bodyPost_ret (v:=vChan ⟨⟨A0,v.q.n,c0⟩,⟨A1,v.i.n,c1⟩,⟨A2,v.n.n,c2⟩,⟨A3,v.a.n,c3⟩⟩ c.base c.expected) (by simp [r0,r1,r2,r3,r4,r5,results,Tryz.results104,go_sem]) rfl ⟨_,rfl,⟨x0.zero,x1.zero,x2.zero,x3.zero⟩,?_,?_⟩
    · exact fresh4 hap y0 y1 y2 y3 (fun k hk=>by have:=(x0.lt k (mem_obl.1 hk));omega) (fun k hk=>by have:=(x1.lt k (mem_obl.1 hk));omega) (fun k hk=>by have:=(x2.lt k (mem_obl.1 hk));omega) (fun k hk=>by have:=(x3.lt k (mem_obl.1 hk));omega)
    · exact bUpd hWB U (fun k hk=>by simp at hk;omega)
theorem Own.made' (w:World) {B g:Nat} (e sz:Nat) (hB:B≤w.heap.size) (hg:g=w.heap.size):Own (w.alloc (.cells #[] e)) B e sz (some ⟨g,0,none⟩) 0 0 []:=by subst hg;exact Own.made0 w e sz hB
theorem one_S {l:List ByteArray}:∀ cs∈l.map strCells,cs.length=1:=fun cs h=>by obtain ⟨f,_,rfl⟩:=List.mem_map.1 h;rfl
theorem cell_S {l:List ByteArray}:∀ cs∈l.map strCells,∀ u∈cs,u.oneCell'=true:=fun cs h=>by obtain ⟨f,_,rfl⟩:=List.mem_map.1 h;exact one_of rfl
theorem one_K {l:List Packet}:∀ cs∈l.map Packet.cells,cs.length=4:=fun cs h=>by obtain ⟨f,_,rfl⟩:=List.mem_map.1 h;rfl
theorem cell_K {l:List Packet}:∀ cs∈l.map Packet.cells,∀ u∈cs,u.oneCell'=true:=fun cs h=>by obtain ⟨f,_,rfl⟩:=List.mem_map.1 h;exact one_of rfl
theorem gBoxF {w w':World} {row:Option Nat} (hg:w.grownBy w' row) (b:Nat) (hb:b < w.heap.size) (hne:∀ k,row=some k→k≠b):∀ o,w'.frozen? ⟨b,o,none⟩=w.frozen? ⟨b,o,none⟩ :=
  fun o=>World.frozen?_of_block (a:=⟨b,o,none⟩) (hg.block b hb (fun e=>hne b e.symm rfl))
theorem Upd.grown_new {fs:List Nat} {a b c:World} {g:Nat} (h:Upd fs a b) (k:b.grownBy c (ob (some ⟨g,0,none⟩))) (hg:a.heap.size≤g):Upd fs a c :=
  ⟨k.os.trans h.os,k.tape.trans h.tape,k.output.trans h.output,Nat.le_trans h.size k.size,fun i hi hn=>(k.block i (Nat.lt_of_lt_of_le hi h.size) (by simp [ob];omega)).trans (h.block i hi hn)⟩
theorem upd1 {a b:World} {g:Nat} (h:a.grownBy b (some g)):Upd [g] a b:=Upd.of_grown h fun k hk=>by simp only [Option.some.injEq] at hk;subst hk;simp
theorem chan_end2 {w w1 w2 w3 w4 X:World} (bx:List Nat) {B0 B1 B2 B3:Nat} {A0 A1 A2 A3:Option Addr} {n0 n1 n2 n3 c0 c1 c2 c3:Nat} {c:Chan} (H:Below w.heap.size w w1)
    (ho0:Own w1 B0 9 1 A0 n0 c0 (c.queue.map strCells)) (u1:Upd bx w1 w2) (ho1:Own w2 B1 9 1 A1 n1 c1 (c.inbox.map strCells)) (u2:Upd bx w2 w3)
    (ho2:Own w3 B2 164 4 A2 n2 c2 (c.net.map Packet.cells)) (u3:Upd bx w3 w4) (ho3:Own w4 B3 164 4 A3 n3 c3 (c.acks.map Packet.cells)) (u4:Upd bx w4 X)
    (hbx:∀ k∈bx,w.heap.size≤k∧k < B0) (s0:w.heap.size≤B0) (s00:B0≤w1.heap.size) (t1:B1≤w2.heap.size) (t2:B2≤w3.heap.size) (s1:w1.heap.size≤B1) (s2:w2.heap.size≤B2) (s3:w3.heap.size≤B3) :
    OwC X ⟨⟨A0,n0,c0⟩,⟨A1,n1,c1⟩,⟨A2,n2,c2⟩,⟨A3,n3,c3⟩⟩ c∧Fresh w.heap.size X (fpC ⟨⟨A0,n0,c0⟩,⟨A1,n1,c1⟩,⟨A2,n2,c2⟩,⟨A3,n3,c3⟩⟩)∧Below w.heap.size w X:=by
  have U4:=u4
  have U3:=u3.trans U4
  have U2:=u2.trans U3
  have U1:=u1.trans U2
  have y1:=u1.size;have y2:=u2.size;have y3:=u3.size;have y4:=u4.size
  refine ⟨⟨(ho0.upd U1 (Upd.apart ho0 fun k hk=>(hbx k hk).2)).zero,(ho1.upd U2 (Upd.apart ho1 fun k hk=>by have:=(hbx k hk).2;omega)).zero,(ho2.upd U3 (Upd.apart ho2 fun k hk=>by have:=(hbx k hk).2;omega)).zero,(ho3.upd U4 (Upd.apart ho3 fun k hk=>by have:=(hbx k hk).2;omega)).zero⟩,?_,bUpd H U1 (fun k hk=>(hbx k hk).1)⟩
  exact ((Fresh.obl_ ho0).rebase s0).then_ ((Fresh.obl_ ho1).then_ ((Fresh.obl_ ho2).then_ ((Fresh.obl_ ho3).grow y4) (by omega) (by omega) (by omega)) (by omega) (by omega) (by omega)) (by omega) (by omega) (by omega)
theorem copyStrings_k (v:Sv) (l:List ByteArray) (w:World) (hm:v.n≤4194304) (hr:RowS w v.A v.n l) :
    Calls Tryz.prog 131 #[.slice v.A v.n v.c] w fun e w'=>∃ A' c',e=.returned (.slice A' v.n c')∧Own w' w.heap.size 9 1 A' v.n c' (l.map strCells)∧Below w.heap.size w w':=by
  obtain ⟨i0,hii,hq0,hq1,hq2⟩:=info_parts info_String
  go_enter Tryz.func131,Tryz.ntmps131
  go_wp2_with (at_builtin;refine wpList_append rfl (.tmp 3) (.tmp 4) 81 rfl w.heap.size 9 1 16 i0 _ Tryz.underlying81 hii hq0 hq1 hq2 rfl (by omega) (some ⟨w.heap.size,0,none⟩) 0 0 [] rfl (Own.made0 w _ 1 (Nat.le_refl _)) v.A v.n v.c (l.map strCells) rfl (Row.below hr (bAlloc (Below.refl _ _) _)) one_S cell_S (by simp only [maxLen];omega) (by omega) (by simp) ?_;intro A3 c3 w3 ho3 hg3 hat3)
  have hB:=bGrown (bAlloc (Below.refl w.heap.size w) _) hg3 (fun q hq=>by simp [ob] at hq;omega)
  go_ret
  simp only [Nat.zero_add,List.nil_append] at ho3
  exact ⟨A3,c3,by simp,ho3,hB⟩
theorem copyChannel_k (v:CV) (c:Chan) (w:World) (hm:fewC c) (hr:RdC w v c) :
    Calls Tryz.prog 85 #[vChan v c.base c.expected] w fun e w'=>∃ v',e=.returned (vChan v' c.base c.expected)∧OwC w' v' c∧Fresh w.heap.size w' (fpC v')∧Below w.heap.size w w':=by
  obtain ⟨j0,hjj,hr0,hr1,hr2⟩:=info_parts info_Packet
  have m0:v.q.n≤4194304:=by have:=hr.q.len.out;unfold fewC at hm;omega
  have m1:v.i.n≤4194304:=by have:=hr.i.len.out;unfold fewC at hm;omega
  have m2:v.n.n≤4194304:=by have:=hr.n.len.out;unfold fewC at hm;omega
  have m3:v.a.n≤4194304:=by have:=hr.a.len.out;unfold fewC at hm;omega
  clear hm
  go_enter Tryz.func85,Tryz.ntmps85
  go_wp2_with fail
  refine Calls.mono (copyStrings_k v.q c.queue _ (by omega) ?_) ?_
  · exact hr.q.below (bAlloc (bAlloc (Below.refl _ _) _) _)
  rintro e w1 ⟨A0,c0,rfl,ho0,hb1⟩
  have H:=bTrans (bAlloc (bAlloc (Below.refl w.heap.size w) _) _) hb1
  have H1:=H
  have hz1:w.heap.size+2≤w1.heap.size:=bsz2 hb1
  have kb10:=bBox hb1 (w.heap.size) (by first | (simp;done) | (simp;omega))
  have fb10:=bBoxF hb1 (w.heap.size) (by first | (simp;done) | (simp;omega))
  have kb11:=bBox hb1 (w.heap.size+1) (by first | (simp;done) | (simp;omega))
  have fb11:=bBoxF hb1 (w.heap.size+1) (by first | (simp;done) | (simp;omega))
  go_wp2_with fail
  refine Calls.mono (copyStrings_k v.i c.inbox _ (by omega) ?_) ?_
  · exact hr.i.below (by repeat (first | exact H | refine bSet ?_ (by simp) _))
  rintro e w2 ⟨A1,c1,rfl,ho1,hb2⟩
  have u1:Upd [w.heap.size] w1 w2:=((Upd.refl _ _).set_in (by simp) _).then_below hb2
  have H:=bTrans (bSet H (by simp) _) hb2
  have hz2:w1.heap.size≤w2.heap.size:=by have:=hb2.size;simpa using this
  have kb20:=bBox hb2 (w.heap.size) (by simp;omega)
  have fb20:=bBoxF hb2 (w.heap.size) (by simp;omega)
  have kb21:=bBox hb2 (w.heap.size+1) (by simp;omega)
  have fb21:=bBoxF hb2 (w.heap.size+1) (by simp;omega)
  have hq2:w.heap.size < w2.heap.size:=by omega
  have hq2':w.heap.size+1 < w2.heap.size:=by omega
  have tok:True:=trivial
  go_wp2_with (at_builtin;first
    | (have _t:=tok;refine wpList_append rfl (.tmp 11) (.tmp 13) 82 rfl w2.heap.size 164 4 40 j0 _ Tryz.underlying82 hjj hr0 hr1 hr2 rfl (by omega) (some ⟨w2.heap.size,0,none⟩) 0 0 [] rfl (Own.made' _ _ 4 (by simp) (by simp)) v.n.A v.n.n v.n.c (c.net.map Packet.cells) rfl (hr.n.below (by repeat (first | exact H | refine bAlloc ?_ _ | refine bSet ?_ (by simp) _))) one_K cell_K (by simp only [maxLen];omega) (by omega) (by simp) ?_;clear tok _t;intro A2 c2 w3 ho2 hg3 hat3;have tok2:True:=trivial;have u2:Upd [w.heap.size] w2 w3:=Upd.grown_new (((Upd.refl _ _).set_in (by simp) _).alloc_ _) hg3 (Nat.le_refl _);have hz3:w2.heap.size+1≤w3.heap.size:=(by have:=hg3.size;simpa using this);have hq3:w.heap.size < w3.heap.size:=(by omega);have hq3':w.heap.size+1 < w3.heap.size:=(by omega);have H3:=bUpd H u2 (fun k hk=>by simp at hk;omega);have kb30:=gBox hg3 (w.heap.size) (by simp;omega) (fun k hk=>by simp [ob] at hk;omega);have fb30:=gBoxF hg3 (w.heap.size) (by simp;omega) (fun k hk=>by simp [ob] at hk;omega);have kb31:=gBox hg3 (w.heap.size+1) (by simp;omega) (fun k hk=>by simp [ob] at hk;omega);have fb31:=gBoxF hg3 (w.heap.size+1) (by simp;omega) (fun k hk=>by simp [ob] at hk;omega))
    | (have _t:=tok2;refine wpList_append rfl (.tmp 16) (.tmp 18) 82 rfl w3.heap.size 164 4 40 j0 _ Tryz.underlying82 hjj hr0 hr1 hr2 rfl (by omega) (some ⟨w3.heap.size,0,none⟩) 0 0 [] rfl (Own.made' _ _ 4 (by simp) (by simp)) v.a.A v.a.n v.a.c (c.acks.map Packet.cells) rfl (hr.a.below (by repeat (first | exact H3 | refine bAlloc ?_ _ | refine bSet ?_ (by simp) _))) one_K cell_K (by simp only [maxLen];omega) (by omega) (by simp) ?_;clear tok2 _t;intro A3 c3 w4 ho3 hg4 hat4;have u3:Upd [w.heap.size] w3 w4:=Upd.grown_new (((Upd.refl _ _).set_in (by simp) _).alloc_ _) hg4 (Nat.le_refl _);have hz4:w3.heap.size+1≤w4.heap.size:=(by have:=hg4.size;simpa using this);have kb40:=gBox hg4 (w.heap.size) (by simp;omega) (fun k hk=>by simp [ob] at hk;omega);have fb40:=gBoxF hg4 (w.heap.size) (by simp;omega) (fun k hk=>by simp [ob] at hk;omega);have kb41:=gBox hg4 (w.heap.size+1) (by simp;omega) (fun k hk=>by simp [ob] at hk;omega);have fb41:=gBoxF hg4 (w.heap.size+1) (by simp;omega) (fun k hk=>by simp [ob] at hk;omega)))
  simp only [Nat.zero_add,List.nil_append] at ho2 ho3
  refine bodyPost_ret (v:=vChan ⟨⟨A0,v.q.n,c0⟩,⟨A1,v.i.n,c1⟩,⟨A2,v.n.n,c2⟩,⟨A3,v.a.n,c3⟩⟩ c.base c.expected) (by simp [*,results,Tryz.results85,go_sem]) rfl ⟨_,rfl,?_⟩
  exact chan_end2 [w.heap.size,w.heap.size+1] H1 ho0 (u1.mono (by simp)) ho1 (u2.mono (by simp)) ho2 (u3.mono (by simp)) ho3 (by repeat (first | with_reducible exact Upd.refl _ _ | (with_reducible refine Upd.set_in ?_ ?_ _);rotate_left;simp)) (by simp;omega) (by simp;omega) (by have:=hb1.size;simpa using this) (by have:=hb2.size;simpa using this) (by omega) (by simp) (Nat.le_refl _) (Nat.le_refl _)
def nilSv:Sv:=⟨none,0,0⟩
def takeC (c:Chan):Chan:={ c with inbox:=[] }
theorem take_end {w w1 X:World} {v:CV} {c:Chan} (bx:List Nat) (H:Below w.heap.size w w1) (ho:OwC w1 v c) {B:Nat} (hf:Fresh B w1 (fpC v)) (hB:w.heap.size≤B) (u:Upd bx w1 X) (hbx:∀ k∈bx,w.heap.size≤k∧(k < B∨w1.heap.size≤k)) :
    OwC X { v with i:=nilSv } (takeC c)∧Fresh w.heap.size X (fpC { v with i:=nilSv })∧OwS X v.i c.inbox∧Fresh w.heap.size X (fpS v.i)∧(∀ q∈fpC { v with i:=nilSv },q ∉ fpS v.i)∧Below w.heap.size w X:=by
  have ho2:=ho.upd u (fun k hk hm=>by have:=hbx k hm;have:=hf.lo k hk;have:=hf.hi k hk;omega)
  have hf2:=(hf.rebase hB).grow u.size
  have e0:obl nilSv.A=[]:=rfl
  obtain ⟨n,lo,hi⟩:=hf2
  simp only [fpC,List.nodup_append,List.mem_append] at n lo hi
  obtain ⟨n0,⟨n1,⟨n2,n3,d2⟩,d1⟩,d0⟩:=n
  refine ⟨⟨ho2.q,Own.nil_ _ _ _ _,ho2.n,ho2.a⟩,⟨?_,?_,?_⟩,ho2.i,⟨n1,fun g hg=>lo g (.inr (.inl hg)),fun g hg=>hi g (.inr (.inl hg))⟩,?_,bUpd H u (fun k hk=>(hbx k hk).1)⟩
  · simp only [fpC,e0,List.nil_append,List.nodup_append,List.mem_append]
    exact ⟨n0,⟨n2,n3,d2⟩,fun a ha b hb=>d0 a ha b (.inr hb)⟩
  · intro g hg
    simp only [fpC,e0,List.nil_append,List.mem_append] at hg
    rcases hg with hg | hg | hg
    · exact lo g (.inl hg)
    · exact lo g (.inr (.inr (.inl hg)))
    · exact lo g (.inr (.inr (.inr hg)))
  · intro g hg
    simp only [fpC,e0,List.nil_append,List.mem_append] at hg
    rcases hg with hg | hg | hg
    · exact hi g (.inl hg)
    · exact hi g (.inr (.inr (.inl hg)))
    · exact hi g (.inr (.inr (.inr hg)))
  · intro g hg hm
    simp only [fpC,e0,List.nil_append,List.mem_append] at hg
    simp only [fpS] at hm
    rcases hg with hg | hg | hg
    · exact d0 g hg g (.inl hm) rfl
    · exact d1 g hm g (.inl hg) rfl
    · exact d1 g hm g (.inr hg) rfl
def addQ (c:Chan) (s:ByteArray):Chan:={ c with queue:=c.queue++[s] }
def offer (c:Chan) (s:ByteArray):Chan × Bool:=if isChan c && isChan (addQ c s) then (addQ c s,true) else (c,false)
theorem offer_no1 {c:Chan} {s:ByteArray} (h:isChan c=false):offer c s=(c,false):=by simp [offer,h]
theorem offer_no2 {c:Chan} {s:ByteArray} (h:isChan (addQ c s)=false):offer c s=(c,false):=by simp [offer,h]
theorem offer_yes {c:Chan} {s:ByteArray} (h:isChan c=true) (h2:isChan (addQ c s)=true):offer c s=(addQ c s,true):=by simp [offer,h,h2]
theorem addq_own {w1 w2:World} {v:CV} {c:Chan} {s:ByteArray} {A:Option Addr} {c':Nat} (ho:OwC w1 v c) (hf:(fpC v).Nodup) (ho2:Own w2 0 9 1 A (v.q.n+1) c' (c.queue.map strCells++[[.string s]])) (u:Upd (obl v.q.A) w1 w2):OwC w2 { v with q:=⟨A,v.q.n+1,c'⟩ } (addQ c s):=by
  simp only [fpC,List.nodup_append,List.mem_append] at hf
  obtain ⟨_,⟨_,⟨_,_,_⟩,_⟩,d0⟩:=hf
  exact ⟨by simpa [addQ,strCells] using ho2,ho.i.upd u (fun k hk hm=>d0 k hm k (.inl hk) rfl),ho.n.upd u (fun k hk hm=>d0 k hm k (.inr (.inl hk)) rfl),ho.a.upd u (fun k hk hm=>d0 k hm k (.inr (.inr hk)) rfl)⟩
theorem addq_fresh {B g n c':Nat} {w1 w2:World} {v:CV} {A:Option Addr} (hf:Fresh B w1 (fpC v)) (hat:ob A=ob v.q.A∨ob A=some g) (hg:w1.heap.size≤g) (hgl:ob A=some g→g < w2.heap.size) (hB:B≤g) (hs:w1.heap.size≤w2.heap.size):Fresh B w2 (fpC { v with q:=⟨A,n,c'⟩ }):=by
  rcases hat with h | h
  · have e:fpC { v with q:=⟨A,n,c'⟩ } = fpC v:=by simp only [fpC,obl,h]
    rw [e];exact hf.grow hs
  · have e:fpC { v with q:=⟨A,n,c'⟩ } = [g]++(obl v.i.A++(obl v.n.A++obl v.a.A)):=by simp only [fpC,obl,h];rfl
    rw [e]
    have hf2:=(Fresh.right (fs:=obl v.q.A) hf)
    have hgl:=hgl h
    refine ⟨?_,?_,?_⟩
    · rw [List.singleton_append,List.nodup_cons]
      exact ⟨fun hm=>by have:=hf2.hi g hm;omega,hf2.nodup⟩
    · intro k hk
      rcases List.mem_append.1 hk with h | h
      · simp at h;omega
      · exact hf2.lo k h
    · intro k hk
      rcases List.mem_append.1 hk with h | h
      · simp at h;omega
      · have:=hf2.hi k h;omega
theorem addq_not {b n c':Nat} {B:Nat} {w1:World} {v:CV} {A:Option Addr} (hf:Fresh B w1 (fpC v)) (hat:ob A=ob v.q.A∨ob A=some (w1.heap.size+1+1)) (hb:b=w1.heap.size∨b < B) (hB:B≤w1.heap.size):∀ q∈fpC { v with q:=⟨A,n,c'⟩ },q ∉ [b]:=by
  intro q hq hm
  simp only [List.mem_singleton] at hm
  subst hm
  have h1:q∈obl A∨q∈fpC v:=by
    simp only [fpC,List.mem_append] at hq ⊢
    rcases hq with h | h
    · exact .inl h
    · exact .inr (.inr h)
  have h2:q∈fpC v∨q=w1.heap.size+1+1:=by
    rcases h1 with h1 | h1
    · have h3:=mem_obl.1 h1
      rcases hat with h | h
      · rw [h] at h3;exact .inl (by simp [fpC,mem_obl.2 h3])
      · rw [h] at h3;exact .inr (Option.some.inj h3).symm
    · exact .inl h1
  rcases h2 with h2 | h2
  · have:=hf.lo q h2;have:=hf.hi q h2;omega
  · omega
theorem off_end {w w5 X:World} {v:CV} {c:Chan} {B:Nat} (H:Below w.heap.size w w5) (ho:OwC w5 v c) (hf:Fresh B w5 (fpC v)) (hB:w.heap.size+2≤B) (u:Upd [w.heap.size+1] w5 X):OwC X v c∧Fresh w.heap.size X (fpC v)∧Below w.heap.size w X :=
  ⟨ho.upd u (fun k hk hm=>by have:=hf.lo k hk;simp at hm;omega),(hf.rebase (by omega)).grow u.size,bUpd H u (fun k hk=>by simp at hk;omega)⟩
theorem spec_Offer_k (v:CV) (c:Chan) (s:ByteArray) (w:World) (hm:bulkC c≤2097152) (hok:okC c) (hr:RdC w v c) (hs:s.size≤4194304) :
    Calls Tryz.prog 72 #[vChan v c.base c.expected,.string s] w fun e w'=>∃ v',e=.returned (.tuple #[vChan v' (offer c s).1.base (offer c s).1.expected,.bool (offer c s).2])∧OwC w' v' (offer c s).1∧Fresh w.heap.size w' (fpC v')∧Below w.heap.size w w':=by
  have hfw:=fewC_of (Nat.le_trans hm (by decide))
  have hwb:=hok.2.2.2.2.1
  have hqn:v.q.n≤2097152:=by have:=hr.q.len.out;unfold bulkC at hm;omega
  have hqc:c.queue.length≤2097152:=by have:=hr.q.len.out;omega
  obtain ⟨i0,hii,hq0,hq1,hq2⟩:=info_parts info_String
  generalize hb1:isChan c=b1
  generalize hb2:isChan (addQ c s)=b2
  have HB1:=Lib.hid hb1
  have HB2:=Lib.hid hb2
  have HS:=Lib.hid hs
  clear hm hok hb1 hb2 hs
  go_enter Tryz.func72,Tryz.ntmps72
  go_wp2_with fail
  refine Calls.mono (l29Copy_k v c _ hfw ?_) ?_
  · exact hr.below (bAlloc (bAlloc (Below.refl _ _) _) _)
  rintro e w1 ⟨v1,rfl,ho,hf,hb1⟩
  have H:=bTrans (bAlloc (bAlloc (Below.refl w.heap.size w) _) _) hb1
  have hz1:w.heap.size+2≤w1.heap.size:=bsz2 hb1
  have q0:w.heap.size < w1.heap.size:=by omega
  have q1:w.heap.size+1 < w1.heap.size:=by omega
  have kb1_0:=bBox hb1 (w.heap.size) (by first | (simp;done) | (simp;omega))
  have kb1_1:=bBox hb1 (w.heap.size+1) (by first | (simp;done) | (simp;omega))
  have fb1_1:=bBoxF hb1 (w.heap.size+1) (by first | (simp;done) | (simp;omega))
  have hf':Fresh (w.heap.size+2) w1 (fpC v1):=hf.rebase (by simp)
  have hq1n:v1.q.n≤2097152:=by have h1:=ho.rd.q.len.out;omega
  have hqb:Hid (∀ k,ob v1.q.A=some k→w.heap.size+2≤k∧k < w1.heap.size):=fun k hk=>by
    have h1:k∈fpC v1:=by simp [fpC,mem_obl.2 hk]
    exact ⟨hf'.lo k h1,hf'.hi k h1⟩
  have tok:True:=trivial
  go_wp2_with (at_builtin;have _t:=tok;refine wpList_append rfl (.tmp 10) (.tmp 12) 81 rfl 0 9 1 16 i0 _ Tryz.underlying81 hii hq0 hq1 hq2 rfl (by omega) v1.q.A v1.q.n v1.q.c (c.queue.map strCells) rfl ((ho.q.alloc_ _).alloc_ _) _ 1 1 [[.string s]] rfl (Row.new1' _ _ [.string s] 1 _ (by simp)) (by simp) (by simp [Value.oneCell']) (by simp only [maxLen];omega) (by omega) (Nat.zero_le _) ?_;clear tok _t;intro A2 c2 w2 ho2 hg2 hat2;have hz2:w1.heap.size+2≤w2.heap.size:=(by have:=hg2.size;simp at this;omega);have kb2_0:=gBox hg2 (w.heap.size) (by simp;omega) (fun k hk=>by have:=hqb.out k hk;omega);have kb2_1:=gBox hg2 (w.heap.size+1) (by simp;omega) (fun k hk=>by have:=hqb.out k hk;omega);have fb2_1:=gBoxF hg2 (w.heap.size+1) (by simp;omega) (fun k hk=>by have:=hqb.out k hk;omega);have kb2_2:=gBox hg2 (w1.heap.size) (by simp;omega) (fun k hk=>by have:=hqb.out k hk;omega);have fb2_2:=gBoxF hg2 (w1.heap.size) (by simp;omega) (fun k hk=>by have:=hqb.out k hk;omega);have y0:w.heap.size < w2.heap.size:=(by omega);have y1:w.heap.size+1 < w2.heap.size:=(by omega);have y2:w1.heap.size < w2.heap.size:=(by omega);have y3:w1.heap.size≠w.heap.size:=(by omega);have y4:w1.heap.size≠w.heap.size+1:=(by omega))
  have uA:Upd (obl v1.q.A) w1 w2:=(((Upd.refl _ _).alloc_ _).alloc_ _).trans (Upd.of_row hg2)
  have hat3:ob A2=ob v1.q.A∨ob A2=some (w1.heap.size+1+1):=by simpa using hat2
  have hX:=addq_own ho hf.nodup ho2 uA
  have hF:Fresh (w.heap.size+2) w2 (fpC { v1 with q:=⟨A2,v1.q.n+1,c2⟩ }):=addq_fresh hf' hat3 (by omega) (fun h=>(ho2.lt _ h).2) (by omega) (by omega)
  have H:=bUpd H uA (fun k hk=>by have:=hqb.out k (mem_obl.1 hk);omega)
  clear hat2
  have hN:=addq_not (b:=w1.heap.size) (n:=v1.q.n+1) (c':=c2) hf' hat3 (.inl rfl) (by omega)
  have hN1:=addq_not (b:=w.heap.size+1) (n:=v1.q.n+1) (c':=c2) hf' hat3 (.inr (by omega)) (by omega)
  have uS:Upd [w1.heap.size] w2 (w2.setCell ⟨w1.heap.size,0,none⟩ (.slice A2 (v1.q.n+1) c2)):=(Upd.refl _ _).set_in (by simp) _
  have hX:=hX.upd uS hN
  have H:=bUpd H uS (fun k hk=>by simp at hk;omega)
  refine Calls.mono (spec_IsChannel_c v c _ (by omega) ?_) ?_
  · exact hr.below H
  rintro e w3 ⟨he,hb3⟩
  rw [HB1.out] at he
  subst he
  have hX:=hX.below hb3
  have hF:=hF.grow (w':=w3) (by have:=hb3.size;simpa using this)
  have H:=bTrans H hb3
  have hz3:w2.heap.size≤w3.heap.size:=by have:=hb3.size;simpa using this
  have kb3_0:=bBox hb3 (w.heap.size) (by simp;omega)
  have kb3_1:=bBox hb3 (w.heap.size+1) (by simp;omega)
  have fb3_1:=bBoxF hb3 (w.heap.size+1) (by simp;omega)
  have kb3_2:=bBox hb3 (w1.heap.size) (by simp;omega)
  have fb3_2:=bBoxF hb3 (w1.heap.size) (by simp;omega)
  cases b1
  · go_wp2_with fail
    refine Calls.mono (l29Copy_k v c _ hfw ?_) ?_
    · exact hr.below H
    rintro e w5 ⟨v5,rfl,ho5,hf5,hb5⟩
    have kb5_1:=bBox hb5 (w.heap.size+1) (by omega)
    have fb5_1:=bBoxF hb5 (w.heap.size+1) (by omega)
    have hB5:w.heap.size+2≤w3.heap.size:=by omega
    have H:=bTrans H hb5
    go_wp2_with fail
    refine bodyPost_ret (v:=.tuple #[vChan v5 c.base c.expected,.bool false]) (by simp [*,results,Tryz.results72,go_sem]) rfl ?_
    rw [offer_no1 HB1.out]
    exact ⟨v5,rfl,off_end H ho5 hf5 hB5 (by repeat (first | with_reducible exact Upd.refl _ _ | ((with_reducible refine Upd.set_in ?_ ?_ _);rotate_left;simp)))⟩
  go_wp2_with fail
  refine Calls.mono (spec_IsChannel_c { v1 with q:=⟨A2,v1.q.n+1,c2⟩ } (addQ c s) _ (by dsimp only;omega) ?_) ?_
  · exact hX.rd
  rintro e w4 ⟨he,hb4⟩
  rw [HB2.out] at he
  subst he
  have hX:=hX.below hb4
  have hF:=hF.grow (w':=w4) hb4.size
  have H:=bTrans H hb4
  have hz4:=hb4.size
  have kb4_0:=bBox hb4 (w.heap.size) (by omega)
  have kb4_1:=bBox hb4 (w.heap.size+1) (by omega)
  have fb4_1:=bBoxF hb4 (w.heap.size+1) (by omega)
  have kb4_2:=bBox hb4 (w1.heap.size) (by omega)
  cases b2
  · go_wp2_with fail
    refine Calls.mono (l29Copy_k v c _ hfw ?_) ?_
    · exact hr.below H
    rintro e w5 ⟨v5,rfl,ho5,hf5,hb5⟩
    have kb5_1:=bBox hb5 (w.heap.size+1) (by omega)
    have fb5_1:=bBoxF hb5 (w.heap.size+1) (by omega)
    have hB5:w.heap.size+2≤w4.heap.size:=by omega
    have H:=bTrans H hb5
    go_wp2_with fail
    refine bodyPost_ret (v:=.tuple #[vChan v5 c.base c.expected,.bool false]) (by simp [*,results,Tryz.results72,go_sem]) rfl ?_
    rw [offer_no2 HB2.out]
    exact ⟨v5,rfl,off_end H ho5 hf5 hB5 (by repeat (first | with_reducible exact Upd.refl _ _ | ((with_reducible refine Upd.set_in ?_ ?_ _);rotate_left;simp)))⟩
  go_wp2_with fail
  refine bodyPost_ret (v:=.tuple #[vChan { v1 with q:=⟨A2,v1.q.n+1,c2⟩ } c.base c.expected,.bool true]) (by simp [*,results,Tryz.results72,go_sem]) rfl ?_
  rw [offer_yes HB1.out HB2.out]
  exact ⟨_,rfl,off_end H hX hF (Nat.le_refl _) (by repeat (first | with_reducible exact Upd.refl _ _ | ((with_reducible refine Upd.set_in ?_ ?_ _);rotate_left;simp)))⟩
theorem impl_Offer_k (v:CV) (c:Chan) (s:ByteArray) (w:World) (hm:bulkC c≤2097152) (hok:okC c) (hr:RdC w v c) (hs:s.size≤4194304) :
    Calls Tryz.prog 39 #[vChan v c.base c.expected,.string s] w fun e w'=>∃ v',e=.returned (.tuple #[vChan v' (offer c s).1.base (offer c s).1.expected,.bool (offer c s).2])∧OwC w' v' (offer c s).1∧Fresh w.heap.size w' (fpC v')∧Below w.heap.size w w':=by
  have hfw:=fewC_of (Nat.le_trans hm (by decide))
  have hwb:=hok.2.2.2.2.1
  have hqn:v.q.n≤2097152:=by have:=hr.q.len.out;unfold bulkC at hm;omega
  have hqc:c.queue.length≤2097152:=by have:=hr.q.len.out;omega
  obtain ⟨i0,hii,hq0,hq1,hq2⟩:=info_parts info_String
  generalize hb1:isChan c=b1
  generalize hb2:isChan (addQ c s)=b2
  have HB1:=Lib.hid hb1
  have HB2:=Lib.hid hb2
  have HS:=Lib.hid hs
  clear hm hok hb1 hb2 hs
  go_enter Tryz.func39,Tryz.ntmps39
  go_wp2_with fail
  refine Calls.mono (copyChannel_k v c _ hfw ?_) ?_
  · exact hr.below (bAlloc (bAlloc (Below.refl _ _) _) _)
  rintro e w1 ⟨v1,rfl,ho,hf,hb1⟩
  have H:=bTrans (bAlloc (bAlloc (Below.refl w.heap.size w) _) _) hb1
  have hz1:w.heap.size+2≤w1.heap.size:=bsz2 hb1
  have q0:w.heap.size < w1.heap.size:=by omega
  have q1:w.heap.size+1 < w1.heap.size:=by omega
  have kb1_0:=bBox hb1 (w.heap.size) (by first | (simp;done) | (simp;omega))
  have kb1_1:=bBox hb1 (w.heap.size+1) (by first | (simp;done) | (simp;omega))
  have fb1_1:=bBoxF hb1 (w.heap.size+1) (by first | (simp;done) | (simp;omega))
  have hf':Fresh (w.heap.size+2) w1 (fpC v1):=hf.rebase (by simp)
  have hq1n:v1.q.n≤2097152:=by have h1:=ho.rd.q.len.out;omega
  have hqb:Hid (∀ k,ob v1.q.A=some k→w.heap.size+2≤k∧k < w1.heap.size):=fun k hk=>by
    have h1:k∈fpC v1:=by simp [fpC,mem_obl.2 hk]
    exact ⟨hf'.lo k h1,hf'.hi k h1⟩
  have tok:True:=trivial
  go_wp2_with (at_builtin;have _t:=tok;refine wpList_append rfl (.tmp 10) (.tmp 12) 81 rfl 0 9 1 16 i0 _ Tryz.underlying81 hii hq0 hq1 hq2 rfl (by omega) v1.q.A v1.q.n v1.q.c (c.queue.map strCells) rfl ((ho.q.alloc_ _).alloc_ _) _ 1 1 [[.string s]] rfl (Row.new1' _ _ [.string s] 1 _ (by simp)) (by simp) (by simp [Value.oneCell']) (by simp only [maxLen];omega) (by omega) (Nat.zero_le _) ?_;clear tok _t;intro A2 c2 w2 ho2 hg2 hat2;have hz2:w1.heap.size+2≤w2.heap.size:=(by have:=hg2.size;simp at this;omega);have kb2_0:=gBox hg2 (w.heap.size) (by simp;omega) (fun k hk=>by have:=hqb.out k hk;omega);have kb2_1:=gBox hg2 (w.heap.size+1) (by simp;omega) (fun k hk=>by have:=hqb.out k hk;omega);have fb2_1:=gBoxF hg2 (w.heap.size+1) (by simp;omega) (fun k hk=>by have:=hqb.out k hk;omega);have kb2_2:=gBox hg2 (w1.heap.size) (by simp;omega) (fun k hk=>by have:=hqb.out k hk;omega);have fb2_2:=gBoxF hg2 (w1.heap.size) (by simp;omega) (fun k hk=>by have:=hqb.out k hk;omega);have y0:w.heap.size < w2.heap.size:=(by omega);have y1:w.heap.size+1 < w2.heap.size:=(by omega);have y2:w1.heap.size < w2.heap.size:=(by omega);have y3:w1.heap.size≠w.heap.size:=(by omega);have y4:w1.heap.size≠w.heap.size+1:=(by omega))
  have uA:Upd (obl v1.q.A) w1 w2:=(((Upd.refl _ _).alloc_ _).alloc_ _).trans (Upd.of_row hg2)
  have hat3:ob A2=ob v1.q.A∨ob A2=some (w1.heap.size+1+1):=by simpa using hat2
  have hX:=addq_own ho hf.nodup ho2 uA
  have hF:Fresh (w.heap.size+2) w2 (fpC { v1 with q:=⟨A2,v1.q.n+1,c2⟩ }):=addq_fresh hf' hat3 (by omega) (fun h=>(ho2.lt _ h).2) (by omega) (by omega)
  have H:=bUpd H uA (fun k hk=>by have:=hqb.out k (mem_obl.1 hk);omega)
  clear hat2
  have hN:=addq_not (b:=w1.heap.size) (n:=v1.q.n+1) (c':=c2) hf' hat3 (.inl rfl) (by omega)
  have hN1:=addq_not (b:=w.heap.size+1) (n:=v1.q.n+1) (c':=c2) hf' hat3 (.inr (by omega)) (by omega)
  have uS:Upd [w1.heap.size] w2 (w2.setCell ⟨w1.heap.size,0,none⟩ (.slice A2 (v1.q.n+1) c2)):=(Upd.refl _ _).set_in (by simp) _
  have hX:=hX.upd uS hN
  have H:=bUpd H uS (fun k hk=>by simp at hk;omega)
  refine Calls.mono (impl_IsChannel_c v c _ hwb ?_) ?_
  · exact hr.below H
  rintro e w3 ⟨he,hb3⟩
  rw [HB1.out] at he
  subst he
  have hX:=hX.below hb3
  have hF:=hF.grow (w':=w3) (by have:=hb3.size;simpa using this)
  have H:=bTrans H hb3
  have hz3:w2.heap.size≤w3.heap.size:=by have:=hb3.size;simpa using this
  have kb3_0:=bBox hb3 (w.heap.size) (by simp;omega)
  have kb3_1:=bBox hb3 (w.heap.size+1) (by simp;omega)
  have fb3_1:=bBoxF hb3 (w.heap.size+1) (by simp;omega)
  have kb3_2:=bBox hb3 (w1.heap.size) (by simp;omega)
  have fb3_2:=bBoxF hb3 (w1.heap.size) (by simp;omega)
  cases b1
  · go_wp2_with fail
    refine Calls.mono (copyChannel_k v c _ hfw ?_) ?_
    · exact hr.below H
    rintro e w5 ⟨v5,rfl,ho5,hf5,hb5⟩
    have kb5_1:=bBox hb5 (w.heap.size+1) (by omega)
    have fb5_1:=bBoxF hb5 (w.heap.size+1) (by omega)
    have hB5:w.heap.size+2≤w3.heap.size:=by omega
    have H:=bTrans H hb5
    go_wp2_with fail
    refine bodyPost_ret (v:=.tuple #[vChan v5 c.base c.expected,.bool false]) (by simp [*,results,Tryz.results39,go_sem]) rfl ?_
    rw [offer_no1 HB1.out]
    exact ⟨v5,rfl,off_end H ho5 hf5 hB5 (by repeat (first | with_reducible exact Upd.refl _ _ | ((with_reducible refine Upd.set_in ?_ ?_ _);rotate_left;simp)))⟩
  go_wp2_with fail
  refine Calls.mono (impl_IsChannel_c { v1 with q:=⟨A2,v1.q.n+1,c2⟩ } (addQ c s) _ hwb ?_) ?_
  · exact hX.rd
  rintro e w4 ⟨he,hb4⟩
  rw [HB2.out] at he
  subst he
  have hX:=hX.below hb4
  have hF:=hF.grow (w':=w4) hb4.size
  have H:=bTrans H hb4
  have hz4:=hb4.size
  have kb4_0:=bBox hb4 (w.heap.size) (by omega)
  have kb4_1:=bBox hb4 (w.heap.size+1) (by omega)
  have fb4_1:=bBoxF hb4 (w.heap.size+1) (by omega)
  have kb4_2:=bBox hb4 (w1.heap.size) (by omega)
  cases b2
  · go_wp2_with fail
    refine Calls.mono (copyChannel_k v c _ hfw ?_) ?_
    · exact hr.below H
    rintro e w5 ⟨v5,rfl,ho5,hf5,hb5⟩
    have kb5_1:=bBox hb5 (w.heap.size+1) (by omega)
    have fb5_1:=bBoxF hb5 (w.heap.size+1) (by omega)
    have hB5:w.heap.size+2≤w4.heap.size:=by omega
    have H:=bTrans H hb5
    go_wp2_with fail
    refine bodyPost_ret (v:=.tuple #[vChan v5 c.base c.expected,.bool false]) (by simp [*,results,Tryz.results39,go_sem]) rfl ?_
    rw [offer_no2 HB2.out]
    exact ⟨v5,rfl,off_end H ho5 hf5 hB5 (by repeat (first | with_reducible exact Upd.refl _ _ | ((with_reducible refine Upd.set_in ?_ ?_ _);rotate_left;simp)))⟩
  go_wp2_with fail
  refine bodyPost_ret (v:=.tuple #[vChan { v1 with q:=⟨A2,v1.q.n+1,c2⟩ } c.base c.expected,.bool true]) (by simp [*,results,Tryz.results39,go_sem]) rfl ?_
  rw [offer_yes HB1.out HB2.out]
  exact ⟨_,rfl,off_end H hX hF (Nat.le_refl _) (by repeat (first | with_reducible exact Upd.refl _ _ | ((with_reducible refine Upd.set_in ?_ ?_ _);rotate_left;simp)))⟩

end Go.Proofs.YtdfemnffpaopfaaGreatDoor
