/- Texts of this proof. -/
import Derived.Test.YtcnbphnnfmphlaaGreatDoorGtm4
namespace Go.Proofs.YtcnbphnnfmphlaaGreatDoor
open Go.Lib renaming hid → Z5
open Option.some renaming injEq → Zi
open Go.Proofs.Tryz
open Go.RowKit
set_option linter.unusedVariables false
set_option linter.unusedSimpArgs false
set_option maxHeartbeats 1000000
set_option maxRecDepth 100000
variable{l:List ByteArray}
theorem Row.rG{w w':World}{A:Option Addr}{n sz:Nat}{css:List (List Value)}{fs:List Nat}(h:Row w A n sz css)(hu:Aw fs w w')(hd:∀ g off,A=some ⟨g,off,none⟩->g ∉ fs):Row w' A n sz css :=
 ⟨h.1,fun i cs hi=>by
  obtain⟨g,off,rfl,hc⟩:=h.2 i cs hi
  exact⟨g,off,rfl,fun j v hv=>(F5 hu g (Y6 (hc j v hv)) (hd g off rfl) _).trans (hc j v hv)⟩⟩
theorem ZjE{W w:World}{b:Nat}{A:Option Addr}{n c:Nat}(hy:Bytes W A n)(hn:n<=4194304)(h:DK W w b A n c)(g m cp:Nat)(l:List Int)(hr:Mh w (some ⟨g,0,none⟩) m l)(hg:g≠b)(h0:0<m)(h1:m<=256):
  Calls prog 29 #[.pointer (some ⟨b,0,none⟩),.slice (some ⟨g,0,none⟩) m cp] w fun e w'=>∃ x,e=LA x/\x∈l/\DK W w' b A n c/\Aw [b] w w':=by
 have HC:=Z5 h;have hy':=Z5 hy;have hr':=Z5 hr;clear h hy hr;have Z3U:(0:Int)<(m:Int):=by omega
 have Z3V:(m:Int)<=256:=by omega
 go_enter func29,ntmps29;go_wp2_with fail;refine Calls.mono (Ys hy'.out hn HC.out (m:Int) o_ o_) ?_;rintro e w1 ⟨x,rfl,hx0,hx1,hc1,hu1⟩;obtain⟨k,rfl⟩:=Int.eq_ofNat_of_zero_le hx0;have hk:k<m:=by omega
 obtain⟨v,g',off',hv,hA,hcell⟩:=Mh.at_ (hr'.out.rG hu1 (fun g2 Sc e=>by simp only[Zi,Addr.mk.injEq]at e;simp;omega)) hk;simp only[Zi,Addr.mk.injEq,and_true]at hA;obtain⟨rfl,rfl⟩:=hA;rw[Nat.zero_add]at hcell;go_wp2;go_ret;exact⟨v,rfl,List.mem_of_getElem? hv.out,hc1,hu1⟩
theorem Zk0{n:Int}(h:F6 n):-9223372036854775808<=n/\n<=9223372036854775807:=by
 unfold F6 at h;simp[Lit.wf]at h;have e:IntKind.i64.min = -9223372036854775808:=rfl;rw[e]at h;exact h
def Uw(l:List ByteArray):Bool:=l.all fun s=>decide (s.size<=300)
def Em(l:List ByteArray)(k:Nat):Prop:=Uw l=Uw (l.drop k)
theorem Em.step{k:Nat}{s:ByteArray}(h:Em l k)(hf:Hid (l[k]? = some s)):Uw l=(decide (s.size<=300) && Uw (l.drop (k+1))):=by
 unfold Em at h;rw[h,QP hf];rfl
theorem Em.done{k n:Nat}(h:Em l k)(hl:Hid (l.length=n))(hk:¬ k<n):Hid (Uw l=true):=by
 unfold Em at h;rw[Hid,h,QK hl hk];rfl
theorem ZjV(c:Chan):Hid (YQ c=(Uw c.queue && (decide (c.queue.length<=8) && (Be c.base 0 1000000 && (Be c.expected c.base (c.base+c.queue.length) && (decide (c.net.length<=12) && decide (c.Ai.length<=12))))))):=rfl
theorem QE(v:CV)(c:Chan)(w:World)(hb:F6 c.base)(hr:FI w v c):
  Calls prog 45 #[YA v c.base c.expected] w fun e w'=>e=QM (YQ c)/\Below w.heap.size w w':=by
 have q0:=hr.q.len;have q2:=hr.n.len;have q3:=hr.a.len;have E:=ZjV c;have hb1:-9223372036854775808<=c.base/\c.base<=9223372036854775807:=Zk0 hb;by_cases hL:v.q.n<=8/\v.n.n<=12/\v.a.n<=12
 .obtain⟨l0,l1,l2⟩:=hL;have HB:=Z5 hb1;clear hb1 hb;go_enter func45,ntmps45;go_wp2_with fail;go_loop [24] (fun i=>∃ k:Nat,k<=v.q.n/\i=.int .i64 k/\Em c.queue k) (fun i=>v.q.n-(intOf i).toNat)
  case atStart=>exact⟨0,o_,rfl,rfl⟩
  case round =>
   obtain⟨k,hk,rfl,hi⟩:=hrel;by_cases hlt:k<v.q.n
   .obtain⟨s,g,off,hf,hA,g0⟩:=D7.at_ hr.q hlt;have lw:=Y6 g0;dsimp only at lw;have hst:=Z5 (hi.step hf);clear hi;rw[hA];by_cases hs:s.size<=300
    .have hnx:Em c.queue (k+1):=by rw[Em,hst.out];simp[hs]
     go_wp2_with fail;go_round
     case rel=>exact⟨k+1,o_,by go_num,hnx⟩
     case measure=>simp[intOf];omega
    .have hfin:Hid (YQ c=false):=by rw[Hid,E.out,hst.out];simp[hs]
     go_wp2_with fail;go_ret;exact⟨by rw[hfin.out];rfl,Ze (Below.refl _ _) _⟩
   .have hfin:=hi.done q0 hlt;go_wp2_with fail;have L0:=q0.out;have L2:=q2.out;have L3:=q3.out;all_goals (go_ret;refine⟨PE ?_,Ze (Below.refl _ _) _⟩;rw[E.out,hfin.out,Bool.eq_iff_iff];simp[Be];omega)
 .have hfin:Hid (YQ c=false):=by
   have L0:=q0.out;have L2:=q2.out;have L3:=q3.out;rw[Hid,E.out];by_cases h8:c.queue.length<=8
   .by_cases h12:c.net.length<=12
    .have:¬ c.Ai.length<=12:=by omega
     simp[this]
    .simp[h12]
   .simp[h8]
  clear hb1 hb;go_enter func45,ntmps45;go_wp2_with fail
  all_goals first
   |(exfalso;omega)
   |(go_ret;exact⟨by rw[hfin.out];rfl,Ze (Below.refl _ _) _⟩)
end Go.Proofs.YtcnbphnnfmphlaaGreatDoor
