/- Texts of this proof, one behind the other: PrsP, Split, IsDig, PrsI, PInt. -/
import Derived.Lib.AtoiAll
import Derived.BigQuiet
import Derived.Lib.Strings
import Derived.Test.YtdfemnffpaopfaaGreatDoorGmf6
import Derived.Test.YtdfemnffpaopfaaGreatDoorGmf8
namespace Go.Proofs.YtdfemnffpaopfaaGreatDoor
open Go.RowKit
set_option linter.unusedVariables false
set_option linter.unusedSimpArgs false
set_option maxHeartbeats 1000000
set_option maxRecDepth 100000
theorem pu_snoc:∀ (l:List UInt8) (acc:Nat) (c:UInt8),Lib.parseUint10 acc (l++[c])=match Lib.parseUint10 acc l with | .ok v=>Lib.parseUint10 v [c] | .syntax=>.syntax | .range=>.range
  | [],acc,c=>by simp only [List.nil_append];conv=>rhs;rw [Lib.parseUint10]
  | x :: l,acc,c=>by
    simp only [List.cons_append,Lib.parseUint10]
    split
    · split
      · rfl
      · split
        · rfl
        · exact pu_snoc l _ c
    · rfl
theorem dig_nat {d:Nat} (h:d < 10):(UInt8.ofNat (48+d)).toNat=48+d:=by
  simp only [UInt8.toNat_ofNat']
  omega
theorem pu_dec:∀ (u:Nat),u < 18446744073709551616→Lib.parseUint10 0 (Lib.decDigits u)=.ok u:=by
  intro u
  induction u using Nat.strongRecOn with
  | _ u ih =>
    intro hu
    by_cases h:u < 10
    · rw [Lib.decDigits_one h]
      simp only [Lib.parseUint10,dig_nat h]
      rw [if_pos ⟨by omega,by omega⟩,if_neg (by omega),if_neg (by omega)]
      congr 1;omega
    · have e:Lib.decDigits u=Lib.decDigits (u / 10)++[UInt8.ofNat (48+u % 10)]:=by rw [Lib.decDigits,dif_neg h]
      rw [e,pu_snoc,ih (u / 10) (by omega) (by omega)]
      have hd:u % 10 < 10:=by omega
      simp only [Lib.parseUint10,dig_nat hd]
      rw [if_pos ⟨by omega,by omega⟩,if_neg (by omega),if_neg (by omega)]
      congr 1;omega
theorem dec_digits:∀ (u:Nat),∀ b∈Lib.decDigits u,48≤b.toNat∧b.toNat≤57:=by
  intro u
  induction u using Nat.strongRecOn with
  | _ u ih =>
    intro b hb
    by_cases h:u < 10
    · rw [Lib.decDigits_one h] at hb
      simp only [List.mem_singleton] at hb
      subst hb
      rw [dig_nat h];omega
    · rw [Lib.decDigits,dif_neg h] at hb
      rcases List.mem_append.1 hb with hb | hb
      · exact ih (u / 10) (by omega) b hb
      · simp only [List.mem_singleton] at hb
        subst hb
        rw [dig_nat (by omega)];omega
theorem dec_ne (u:Nat):Lib.decDigits u≠[]:=by
  rw [Lib.decDigits]
  split <;> simp
theorem itoa_signs (n:Int):∀ b∈Lib.itoa n,b.toNat=45∨(48≤b.toNat∧b.toNat≤57):=by
  intro b hb
  by_cases h:0≤n
  · obtain ⟨u,rfl⟩:=Int.eq_ofNat_of_zero_le h
    rw [show ((u:Nat):Int)=(u:Int) from rfl,Lib.itoa_nonneg] at hb
    exact .inr (dec_digits u b hb)
  · obtain ⟨u,rfl⟩:∃ u:Nat,n = -(u:Int):=⟨n.natAbs,by omega⟩
    rw [Lib.itoa_neg u (by omega)] at hb
    rcases List.mem_cons.1 hb with rfl | hb
    · exact .inl rfl
    · exact .inr (dec_digits u b hb)
theorem itoa_ne (n:Int):Lib.itoa n≠[]:=by
  by_cases h:0≤n
  · obtain ⟨u,rfl⟩:=Int.eq_ofNat_of_zero_le h
    rw [show ((u:Nat):Int)=(u:Int) from rfl,Lib.itoa_nonneg]
    exact dec_ne u
  · obtain ⟨u,rfl⟩:∃ u:Nat,n = -(u:Int):=⟨n.natAbs,by omega⟩
    rw [Lib.itoa_neg u (by omega)]
    simp
theorem atoi_itoa {n:Int} (h0:-9223372036854775808≤n) (h1:n≤9223372036854775807):Lib.atoiAll (Lib.itoa n)=.ok n:=by
  by_cases h:0≤n
  · obtain ⟨u,rfl⟩:=Int.eq_ofNat_of_zero_le h
    have e:Lib.itoa (u:Int)=Lib.decDigits u:=Lib.itoa_nonneg u
    rw [e]
    have hp:=pu_dec u (by omega)
    obtain ⟨c,r,hcr⟩:∃ c r,Lib.decDigits u=c :: r:=by
      cases hd:Lib.decDigits u with
      | nil=>exact absurd hd (dec_ne u)
      | cons c r=>exact ⟨c,r,rfl⟩
    have hc:=dec_digits u c (by rw [hcr];simp)
    rw [hcr] at hp ⊢
    unfold Lib.atoiAll Lib.parseMag
    simp only
    rw [if_neg (show ¬ (c.toNat=43∨c.toNat=45) by omega),if_neg (by simp),hp]
    simp only
    rw [if_neg (by omega),if_neg (by omega),if_neg (by omega)]
  · obtain ⟨u,rfl⟩:∃ u:Nat,n = -(u:Int):=⟨n.natAbs,by omega⟩
    rw [Lib.itoa_neg u (by omega)]
    have hp:=pu_dec u (by omega)
    unfold Lib.atoiAll Lib.parseMag
    simp only
    rw [if_pos (show ((45:UInt8).toNat=43∨(45:UInt8).toNat=45) from .inr rfl),if_neg (dec_ne u),hp]
    simp only
    have h45:(45:UInt8).toNat=45:=rfl
    rw [if_neg (by omega),if_neg (by omega),if_pos h45]
theorem itoa_inj {n m:Int} (h0:-9223372036854775808≤n) (h1:n≤9223372036854775807) (g0:-9223372036854775808≤m) (g1:m≤9223372036854775807) (h:Lib.itoa n=Lib.itoa m):n=m:=by
  have a:=atoi_itoa h0 h1
  rw [h,atoi_itoa g0 g1] at a
  injection a with a
  exact a.symm

def splitL (p:UInt8→Bool):List UInt8→List UInt8→List (List UInt8)
  | cur,[]=>[cur]
  | cur,b :: r=>if p b=true then cur :: splitL p [] r else splitL p (cur++[b]) r
theorem splitL_word {p:UInt8→Bool} {sep:UInt8} (hs:p sep=true):∀ (w cur r:List UInt8),(∀ b∈w,p b=false)→splitL p cur (w++sep :: r)=(cur++w) :: splitL p [] r
  | [],cur,r,_=>by simp [splitL,hs]
  | b :: w,cur,r,h=>by
    have hb:=h b (by simp)
    have ih:=splitL_word hs w (cur++[b]) r fun x hx=>h x (by simp [hx])
    simp only [List.cons_append,splitL,hb]
    rw [if_neg (by decide),ih]
    simp
theorem splitL_last {p:UInt8→Bool}:∀ (w cur:List UInt8),(∀ b∈w,p b=false)→splitL p cur w=[cur++w]
  | [],cur,_=>by simp [splitL]
  | b :: w,cur,h=>by
    have hb:=h b (by simp)
    have ih:=splitL_last w (cur++[b]) fun x hx=>h x (by simp [hx])
    simp only [splitL,hb]
    rw [if_neg (by decide),ih]
    simp
theorem splitL_ne (p:UInt8→Bool):∀ (l cur:List UInt8),splitL p cur l≠[]
  | [],cur=>by simp [splitL]
  | b :: l,cur=>by
    rw [splitL]
    split
    · simp
    · exact splitL_ne p l _
def isB (c:UInt8) (b:UInt8):Bool:=b == c
def SpInv (s:ByteArray) (c:UInt8) (start k:Nat) (L:List ByteArray):Prop :=
  splitL (isB c) [] s.data.toList=L.map (fun x=>x.data.toList)++splitL (isB c) ((s.data.toList.drop start).take (k - start)) (s.data.toList.drop k)
theorem ext_list (s:ByteArray) (a b:Nat):(s.extract a b).data.toList=(s.data.toList.drop a).take (b - a):=by
  rw [← ByteArray.toList_eq];exact Lib.extract_toList s a b
theorem SpInv.start (s:ByteArray) (c:UInt8):SpInv s c 0 0 []:=by simp [SpInv]
theorem take_more {l:List UInt8} {a k:Nat} {b:UInt8} (hak:a≤k) (hb:l[k]? = some b):(l.drop a).take (k - a)++[b]=(l.drop a).take (k+1 - a):=by
  have e:k+1 - a=(k - a)+1:=by omega
  have hd:(l.drop a)[k - a]? = some b:=by rw [List.getElem?_drop];rw [show a+(k - a)=k by omega];exact hb
  obtain ⟨hi,he⟩:=List.getElem?_eq_some_iff.1 hd
  rw [e,List.take_succ_eq_append_getElem hi,he]
theorem SpInv.no {s:ByteArray} {c:UInt8} {a k:Nat} {L:List ByteArray} (h:SpInv s c a k L) (hak:a≤k) (hk:k < s.size) (hc:(s[k] == c)=false):SpInv s c a (k+1) L:=by
  unfold SpInv at *
  rw [h,sdrop s hk,splitL]
  rw [if_neg (by unfold isB;rw [hc];decide)]
  have hb:s.data.toList[k]? = some s[k]:=by
    have hk':k < s.data.toList.length:=by simpa using hk
    rw [List.getElem?_eq_getElem hk'];rfl
  rw [take_more hak hb]
theorem SpInv.yes {s:ByteArray} {c:UInt8} {a k:Nat} {L:List ByteArray} (h:SpInv s c a k L) (hk:k < s.size) (hc:(s[k] == c)=true):SpInv s c (k+1) (k+1) (L++[s.extract a k]):=by
  unfold SpInv at *
  rw [h,sdrop s hk,splitL]
  rw [if_pos (by unfold isB;exact hc)]
  simp [ext_list]
theorem SpInv.done {s:ByteArray} {c:UInt8} {a k:Nat} {L:List ByteArray} (h:SpInv s c a k L) (hk:k=s.size):splitL (isB c) [] s.data.toList=(L++[s.extract a s.size]).map (fun x=>x.data.toList):=by
  subst hk
  unfold SpInv at h
  have hl:s.data.toList.length=s.size:=by simp
  have e:s.data.toList.drop s.size=[]:=List.drop_of_length_le (by omega)
  rw [h,e,splitL]
  simp [ext_list]
theorem byte_eq {a b:UInt8}:((a.toNat:Int) == (b.toNat:Int))=(a == b):=by
  rw [Bool.eq_iff_iff]
  simp only [beq_iff_eq]
  constructor
  · intro h;exact UInt8.toNat_inj.1 (by omega)
  · rintro rfl;rfl
theorem hasByte_c (c:UInt8) (b:UInt8) (w:World):Calls Tryz.prog 179 #[.string ⟨#[c]⟩,.int .u8 (b.toNat:Int)] w fun e w'=>e=rBool (b == c)∧w=w':=by
  have hx:((⟨#[c]⟩:ByteArray)[0]'(by show 0 < 1;omega))=c:=rfl
  go_enter Tryz.func179,Tryz.ntmps179
  go_wp2_with fail
  go_loop [5] (fun i=>∃ k:Nat,i=.int .i64 (k:Int)∧(k=0∨(k=1∧¬ b=c))) (fun i=>2 - (intOf i).toNat)
  case atStart=>exact ⟨0,rfl,.inl rfl⟩
  case round =>
    obtain ⟨k,rfl,hk⟩:=hrel
    rcases hk with rfl | ⟨rfl,hne⟩
    · by_cases hbc:b=c
      · subst hbc
        go_wp2
        go_ret
        exact ⟨by simp,rfl⟩
      · have hne:¬ (c.toNat:Int)=(b.toNat:Int):=fun e=>hbc (UInt8.toNat_inj.1 (by omega))
        have hne2:¬ c.toNat=b.toNat:=by omega
        have hq:((c.toNat:Int) == (b.toNat:Int))=false:=by simp;omega
        go_wp2
        exact ⟨⟨1,by simp,.inr ⟨rfl,hbc⟩⟩,by simp [intOf]⟩
    · go_wp2
      go_ret
      exact ⟨by simp [hne],rfl⟩
def SplitPost (w:World) (s:ByteArray) (c:UInt8) (e:Ending) (w':World):Prop :=
  ∃ (v:Sv) (L:List ByteArray),e=.returned (.slice v.A v.n v.c)∧Own w' w.heap.size 9 1 v.A v.n v.c (L.map strCells)∧L.map (fun x=>x.data.toList)=splitL (isB c) [] s.data.toList∧Below w.heap.size w w'
theorem impl_SplitAny_k (s:ByteArray) (c:UInt8) (w:World) (hs:s.size≤4194304) :
    Calls Tryz.prog 139 #[.string s,.string ⟨#[c]⟩] w fun e w'=>SplitPost w s c e w':=by
  obtain ⟨i0,hii,hq0,hq1,hq2⟩:=info_parts info_String
  go_enter Tryz.func139,Tryz.ntmps139
  go_wp2_with fail
  go_loopw [5,6,7] (fun l st i wr=>∃ (k a:Nat) (A:Option Addr) (cc:Nat) (L:List ByteArray),l=.slice A L.length cc∧st=.int .i64 (a:Int)∧i=.int .i64 (k:Int)∧a≤k∧k≤s.size∧L.length≤k∧SpInv s c a k L∧Own wr w.heap.size 9 1 A L.length cc (L.map strCells)∧Below w.heap.size w wr) (fun _ _ i _=>s.size - (intOf i).toNat)
  case atStart=>exact ⟨0,0,_,0,[],rfl,rfl,rfl,Nat.le_refl _,Nat.zero_le _,Nat.le_refl _,SpInv.start s c,Own.made0 w _ 1 (Nat.le_refl _),bAlloc (Below.refl _ _) _⟩
  case round =>
    obtain ⟨k,a,A,cc,L,rfl,rfl,rfl,hak,hk,hL,hi,ho,hb⟩:=hrel
    have HI:=Lib.hid hi
    have HO:=Lib.hid ho
    have HB:=Lib.hid hb
    clear hi ho hb
    by_cases hlt:k < s.size
    · go_wp2_with fail
      refine Calls.mono (hasByte_c c s[k] _) ?_
      rintro e w1 ⟨rfl,rfl⟩
      cases hc:s[k] == c with
      | false =>
        have HN:=Lib.hid (HI.out.no hak hlt hc)
        clear hc
        go_wp2_with fail
        exact ⟨⟨k+1,a,A,cc,L,rfl,rfl,by simp,by omega,by omega,by omega,HN.out,HO.out,HB.out⟩,by simp only [intOf];omega⟩
      | true =>
        have HN:=Lib.hid (HI.out.yes hlt hc)
        have hai:(a:Int)≤(k:Int):=by omega
        have hki:(k:Int)≤(s.size:Int):=by omega
        clear hc
        go_wp2_with (at_builtin;refine wpList_append rfl (.tmp 20) (.tmp 25) 81 rfl w.heap.size 9 1 16 i0 _ Tryz.underlying81 hii hq0 hq1 hq2 rfl (by omega) A L.length cc (L.map strCells) rfl (HO.out.alloc_ _) _ 1 1 [[.string (s.extract a k)]] rfl (Row.new1' _ _ [.string (s.extract a k)] 1 _ (by simp)) (by simp) (by simp [Value.oneCell']) (by simp only [maxLen];omega) (by omega) (by have:=HB.out.size;simp;omega) ?_;intro A5 c5 w5 ho5 hg5 hat5)
        exact ⟨⟨k+1,k+1,A5,c5,L++[s.extract a k],by simp,by simp,by simp,by omega,by omega,by simp;omega,HN.out,by rw [List.length_append,List.map_append];exact ho5,bGrown (bAlloc HB.out _) hg5 (fun q hq=>(HO.out.lt q hq).1)⟩,by simp only [intOf];omega⟩
    · obtain rfl:k=s.size:=by omega
      have hkn:¬ (s.size:Int) < (s.size:Int):=by omega
      have hai:(a:Int)≤(s.size:Int):=by omega
      have HD:=Lib.hid (HI.out.done rfl)
      go_wp2_with (at_builtin;refine wpList_append rfl (.tmp 29) (.tmp 33) 81 rfl w.heap.size 9 1 16 i0 _ Tryz.underlying81 hii hq0 hq1 hq2 rfl (by omega) A L.length cc (L.map strCells) rfl (HO.out.alloc_ _) _ 1 1 [[.string (s.extract a s.size)]] rfl (Row.new1' _ _ [.string (s.extract a s.size)] 1 _ (by simp)) (by simp) (by simp [Value.oneCell']) (by simp only [maxLen];omega) (by omega) (by have:=HB.out.size;simp;omega) ?_;intro A5 c5 w5 ho5 hg5 hat5)
      go_ret
      exact ⟨⟨A5,L.length+1,c5⟩,L++[s.extract a s.size],rfl,by rw [List.map_append];exact ho5,HD.out.symm,bGrown (bAlloc HB.out _) hg5 (fun q hq=>(HO.out.lt q hq).1)⟩
theorem spec_SplitAny_k (s:ByteArray) (c:UInt8) (w:World) (hs:s.size≤4194304) :
    Calls Tryz.prog 169 #[.string s,.string ⟨#[c]⟩] w fun e w'=>SplitPost w s c e w':=by
  obtain ⟨i0,hii,hq0,hq1,hq2⟩:=info_parts info_String
  have hx:((⟨#[c]⟩:ByteArray)[0]'(by show 0 < 1;omega))=c:=rfl
  go_enter Tryz.func169,Tryz.ntmps169
  go_wp2_with fail
  go_loopw [5,6,7] (fun l st i wr=>∃ (k a:Nat) (A:Option Addr) (cc:Nat) (L:List ByteArray),l=.slice A L.length cc∧st=.int .i64 (a:Int)∧i=.int .i64 (k:Int)∧a≤k∧k≤s.size∧L.length≤k∧SpInv s c a k L∧Own wr w.heap.size 9 1 A L.length cc (L.map strCells)∧Below w.heap.size w wr) (fun _ _ i _=>s.size - (intOf i).toNat)
  case atStart=>exact ⟨0,0,_,0,[],rfl,rfl,rfl,Nat.le_refl _,Nat.zero_le _,Nat.le_refl _,SpInv.start s c,Own.made0 w _ 1 (Nat.le_refl _),bAlloc (Below.refl _ _) _⟩
  case round =>
    obtain ⟨k,a,A,cc,L,rfl,rfl,rfl,hak,hk,hL,hi,ho,hb⟩:=hrel
    have HI:=Lib.hid hi
    have HO:=Lib.hid ho
    have HB:=Lib.hid hb
    clear hi ho hb
    by_cases hlt:k < s.size
    · go_wp2_with fail
      obtain ⟨wo,hwo⟩:∃ wo:World,wo=wr:=⟨_,rfl⟩
      clear hwo
      go_loopw [5,6,8] (fun l st j wr2=>∃ (jj:Nat),l=.slice A L.length cc∧st=.int .i64 (a:Int)∧j=.int .i64 (jj:Int)∧(jj=0∨(jj=1∧SpInv s c a (k+1) L))∧Own wr2 w.heap.size 9 1 A L.length cc (L.map strCells)∧Below w.heap.size w wr2) (fun _ _ j _=>2 - (intOf j).toNat)
      case atStart=>exact ⟨0,rfl,rfl,rfl,.inl rfl,HO.out,HB.out⟩
      case round =>
        obtain ⟨jj,rfl,rfl,rfl,hj,ho,hb⟩:=hrel
        have HO:=Lib.hid ho
        have HB:=Lib.hid hb
        clear ho hb
        rcases hj with rfl | ⟨rfl,hn⟩
        · cases hc:s[k] == c with
          | false =>
            have HN:=Lib.hid (HI.out.no hak hlt hc)
            have hq:((s[k].toNat:Int) == (c.toNat:Int))=false:=by rw [byte_eq];exact hc
            have hne:¬ (s[k].toNat:Int)=(c.toNat:Int):=by simpa using hq
            clear hc
            go_wp2_with fail
            go_quiet (fail)
            go_wp2_with fail
            exact ⟨⟨1,rfl,rfl,by simp,.inr ⟨rfl,HN.out⟩,HO.out.below (bDrewN (Below.refl _ _) _),bDrewN HB.out _⟩,by simp [intOf]⟩
          | true =>
            have HN:=Lib.hid (HI.out.yes hlt hc)
            have hq:((s[k].toNat:Int) == (c.toNat:Int))=true:=by rw [byte_eq];exact hc
            have hne:(s[k].toNat:Int)=(c.toNat:Int):=by simpa using hq
            have HNE:=Lib.hid hne
            have hai:(a:Int)≤(k:Int):=by omega
            have hki:(k:Int)≤(s.size:Int):=by omega
            clear hc hne
            go_wp2_with fail
            go_quiet (fail)
            have hsz:=HB.out.size
            go_wp2_with (at_builtin;refine wpList_append rfl (.tmp 29) (.tmp 34) 81 rfl w.heap.size 9 1 16 i0 _ Tryz.underlying81 hii hq0 hq1 hq2 rfl (by omega) A L.length cc (L.map strCells) rfl (HO.out.below (bAlloc (bDrewN (Below.refl _ _) _) _)) _ 1 1 [[.string (s.extract a k)]] rfl (Row.new1' _ _ [.string (s.extract a k)] 1 _ (by simp)) (by simp) (by simp [Value.oneCell']) (by simp only [maxLen];omega) (by omega) (by simp;omega) ?_;intro A5 c5 w5 ho5 hg5 hat5)
            exact ⟨⟨k+1,k+1,A5,c5,L++[s.extract a k],by simp,by simp,by simp,by omega,by omega,by simp;omega,HN.out,by rw [List.length_append,List.map_append];exact ho5,bGrown (bAlloc (bDrewN HB.out _) _) hg5 (fun q hq=>(HO.out.lt q hq).1)⟩,by simp only [intOf];omega⟩
        · go_wp2_with fail
          exact ⟨⟨k+1,a,A,cc,L,rfl,rfl,by simp,by omega,by omega,by omega,hn,HO.out,HB.out⟩,by simp only [intOf];omega⟩
    · obtain rfl:k=s.size:=by omega
      have hkn:¬ (s.size:Int) < (s.size:Int):=by omega
      have hai:(a:Int)≤(s.size:Int):=by omega
      have HD:=Lib.hid (HI.out.done rfl)
      go_wp2_with (at_builtin;refine wpList_append rfl (.tmp 38) (.tmp 42) 81 rfl w.heap.size 9 1 16 i0 _ Tryz.underlying81 hii hq0 hq1 hq2 rfl (by omega) A L.length cc (L.map strCells) rfl (HO.out.alloc_ _) _ 1 1 [[.string (s.extract a s.size)]] rfl (Row.new1' _ _ [.string (s.extract a s.size)] 1 _ (by simp)) (by simp) (by simp [Value.oneCell']) (by simp only [maxLen];omega) (by omega) (by have:=HB.out.size;simp;omega) ?_;intro A5 c5 w5 ho5 hg5 hat5)
      go_ret
      exact ⟨⟨A5,L.length+1,c5⟩,L++[s.extract a s.size],rfl,by rw [List.map_append];exact ho5,HD.out.symm,bGrown (bAlloc HB.out _) hg5 (fun q hq=>(HO.out.lt q hq).1)⟩
def dgB (b:UInt8):Bool:=decide (48≤(b.toNat:Int)∧(b.toNat:Int)≤57)
def isDg (s:ByteArray):Bool:=s.data.toList.all dgB && decide (0 < s.size)
def DgInv (s:ByteArray) (k:Nat):Prop:=s.data.toList.all dgB=(s.data.toList.drop k).all dgB
theorem DgInv.next {s:ByteArray} {k:Nat} (h:DgInv s k) (hk:k < s.size) (hb:dgB s[k]=true):DgInv s (k+1):=by
  unfold DgInv at *
  rw [h,sdrop s hk,List.all_cons,hb,Bool.true_and]
theorem DgInv.no {s:ByteArray} {k:Nat} (h:DgInv s k) (hk:k < s.size) (hb:dgB s[k]=false):isDg s=false:=by
  unfold DgInv at h
  rw [isDg,h,sdrop s hk,List.all_cons,hb,Bool.false_and,Bool.false_and]
theorem DgInv.yes {s:ByteArray} {k:Nat} (h:DgInv s k) (hk:¬ k < s.size):isDg s=decide (0 < s.size):=by
  unfold DgInv at h
  rw [isDg,h,List.drop_eq_nil_of_le (by simp;omega),List.all_nil,Bool.true_and]
theorem spec_IsDigits_c (s:ByteArray) (w:World) (hs:s.size≤4194304):Calls Tryz.prog 198 #[.string s] w fun e w'=>e=rBool (isDg s)∧w=w':=by
  go_enter Tryz.func198,Tryz.ntmps198
  go_wp2
  go_loop [3] (fun i=>∃ (k:Nat),k≤s.size∧i=.int .i64 k∧DgInv s k) (fun i=>s.size - (intOf i).toNat)
  case atStart=>exact ⟨0,by omega,rfl,rfl⟩
  case round =>
    obtain ⟨k,hk,rfl,hi⟩:=hrel
    by_cases hlt:k < s.size
    · by_cases hA:dgB s[k]=true
      · have hnx:=Lib.hid (hi.next hlt hA)
        unfold dgB at hA
        obtain ⟨h4,h5⟩:=of_decide_eq_true hA
        clear hA
        go_wp2
        all_goals
          go_round
          case rel=>exact ⟨k+1,by omega,by go_num,hnx.out⟩
          case measure=>simp [intOf];omega
      · have hno:=Lib.hid (hi.no hlt (by simpa using hA))
        by_cases h4:48≤(s[k].toNat:Int)
        · have h5:57 < (s[k].toNat:Int):=by
            unfold dgB at hA
            by_cases h6:57 < (s[k].toNat:Int)
            · exact h6
            · exact absurd (decide_eq_true ⟨h4,by omega⟩) hA
          clear hA
          go_wp2
          go_ret
          exact ⟨by rw [hno.out];rfl,rfl⟩
        · have h5:(s[k].toNat:Int) < 48:=by omega
          clear hA
          go_wp2
          go_ret
          exact ⟨by rw [hno.out];rfl,rfl⟩
    · have hy:=Lib.hid (hi.yes hlt)
      by_cases h0:0 < s.size
      · go_wp2
        go_ret
        exact ⟨by rw [hy.out];simp [h0],rfl⟩
      · go_wp2
        go_ret
        exact ⟨by rw [hy.out];simp [h0],rfl⟩
open Classical in
noncomputable def psI (s:ByteArray):Option Int :=
  if h:∃ n:Int,(-9223372036854775808≤n∧n≤9223372036854775807)∧itoaB n=s then some (Classical.choose h) else none
theorem itoaB_inj {n m:Int} (h0:-9223372036854775808≤n) (h1:n≤9223372036854775807) (g0:-9223372036854775808≤m) (g1:m≤9223372036854775807) (h:itoaB n=itoaB m):n=m:=by
  refine itoa_inj h0 h1 g0 g1 ?_
  have:=congrArg (fun x=>x.data.toList) h
  simpa [itoaB] using this
theorem psI_some {n:Int} {s:ByteArray} (h0:-9223372036854775808≤n) (h1:n≤9223372036854775807) (h:itoaB n=s):psI s=some n:=by
  have hx:∃ n:Int,(-9223372036854775808≤n∧n≤9223372036854775807)∧itoaB n=s:=⟨n,⟨h0,h1⟩,h⟩
  unfold psI
  rw [dif_pos hx]
  have hc:=Classical.choose_spec hx
  rw [itoaB_inj hc.1.1 hc.1.2 h0 h1 (hc.2.trans h.symm)]
theorem psI_none {s:ByteArray} (h:∀ n:Int,-9223372036854775808≤n→n≤9223372036854775807→itoaB n≠s):psI s=none:=by
  unfold psI
  rw [dif_neg]
  rintro ⟨n,⟨h0,h1⟩,e⟩
  exact h n h0 h1 e
theorem psI_text {n:Int} {s:ByteArray} (h:psI s=some n):-9223372036854775808≤n∧n≤9223372036854775807∧itoaB n=s:=by
  unfold psI at h
  split at h
  case isTrue hx =>
    have hc:=Classical.choose_spec hx
    injection h with h
    rw [h] at hc
    exact ⟨hc.1.1,hc.1.2,hc.2⟩
  case isFalse=>cases h
def dval:Nat→List UInt8→Nat
  | a,[]=>a
  | a,b :: r=>dval (a * 10+(b.toNat - 48)) r
theorem dval_snoc:∀ (l:List UInt8) (a:Nat) (c:UInt8),dval a (l++[c])=dval a l * 10+(c.toNat - 48)
  | [],a,c=>rfl
  | x :: l,a,c=>by
    show dval (a * 10+(x.toNat - 48)) (l++[c])=dval (a * 10+(x.toNat - 48)) l * 10+(c.toNat - 48)
    exact dval_snoc l _ c
theorem dval_le:∀ (l:List UInt8) (a:Nat),a≤dval a l
  | [],a=>Nat.le_refl _
  | x :: l,a=>by
    show a≤dval (a * 10+(x.toNat - 48)) l
    have:=dval_le l (a * 10+(x.toNat - 48))
    omega
theorem dval_app:∀ (l r:List UInt8) (a:Nat),dval a (l++r)=dval (dval a l) r
  | [],r,a=>rfl
  | x :: l,r,a=>by
    show dval (a * 10+(x.toNat - 48)) (l++r)=dval (dval (a * 10+(x.toNat - 48)) l) r
    exact dval_app l r _
theorem dval_dec (u:Nat):dval 0 (Lib.decDigits u)=u:=by
  induction u using Nat.strongRecOn with
  | _ u ih =>
    by_cases h:u < 10
    · rw [Lib.decDigits_one h]
      show 0 * 10+((UInt8.ofNat (48+u)).toNat - 48)=u
      rw [dig_nat h]
      omega
    · have e:Lib.decDigits u=Lib.decDigits (u / 10)++[UInt8.ofNat (48+u % 10)]:=by rw [Lib.decDigits,dif_neg h]
      rw [e,dval_snoc,ih (u / 10) (by omega),dig_nat (by omega)]
      omega
theorem dval_take (l:List UInt8) (k:Nat):dval 0 (l.take k)≤dval 0 l:=by
  have:=dval_app (l.take k) (l.drop k) 0
  rw [List.take_append_drop] at this
  rw [this]
  exact dval_le _ _
theorem dval_next {s:ByteArray} {k:Nat} (hk:k < s.size):dval 0 (s.data.toList.take (k+1))=dval 0 (s.data.toList.take k) * 10+(s[k].toNat - 48):=by
  have hk':k < s.data.toList.length:=by simpa using hk
  rw [List.take_succ_eq_append_getElem hk',dval_snoc]
  rfl
theorem dec_isDg (t:ByteArray) (u:Nat) (h:t.data.toList=Lib.decDigits u):isDg t=true:=by
  unfold isDg
  rw [Bool.and_eq_true,List.all_eq_true]
  constructor
  · intro b hb
    rw [h] at hb
    have:=dec_digits u b hb
    unfold dgB
    exact decide_eq_true (by omega)
  · have hn:=dec_ne u
    rw [← h] at hn
    have:t.data.toList.length=t.size:=by simp
    have:0 < t.data.toList.length:=List.length_pos_iff.2 hn
    exact decide_eq_true (by omega)
def vPair (o:Option Int):Value:=match o with | some n=>.tuple #[.int .i64 n,.bool true] | none=>.tuple #[.int .i64 0,.bool false]
theorem dec_len:∀ (m u:Nat),u < 10 ^ (m+1)→(Lib.decDigits u).length≤m+1
  | 0,u,h=>by rw [Lib.decDigits_one (by simpa using h)];exact Nat.le_refl _
  | m+1,u,h=>by
    by_cases h1:u < 10
    · rw [Lib.decDigits_one h1];simp
    · have e:Lib.decDigits u=Lib.decDigits (u / 10)++[UInt8.ofNat (48+u % 10)]:=by rw [Lib.decDigits,dif_neg h1]
      have h2:u / 10 < 10 ^ (m+1):=by
        rw [Nat.pow_succ] at h
        omega
      have:=dec_len m (u / 10) h2
      rw [e,List.length_append]
      simp only [List.length_cons,List.length_nil]
      omega
theorem tq {d:Int} (h:0≤d) (h9:d≤9):(-9223372036854775808+d).tdiv 10 = -((9223372036854775808 - d) / 10):=by
  rw [show -9223372036854775808+d = -(9223372036854775808 - d) by omega,Int.neg_tdiv,Int.tdiv_eq_ediv_of_nonneg (by omega)]
theorem toL_inj {a b:ByteArray} (h:a.toList=b.toList):a=b:=by
  rw [ByteArray.toList_eq,ByteArray.toList_eq] at h
  exact ByteArray.ext (Array.toList_inj.1 h)
theorem isDg_at {s:ByteArray} (h:isDg s=true) {k:Nat} (hk:k < s.size):48≤s[k].toNat∧s[k].toNat≤57:=by
  unfold isDg at h
  rw [Bool.and_eq_true,List.all_eq_true] at h
  have hk':k < s.data.toList.length:=by simpa using hk
  have:=h.1 (s.data.toList[k]) (List.getElem_mem hk')
  unfold dgB at this
  have e:s.data.toList[k]=s[k]:=rfl
  rw [e] at this
  have:=of_decide_eq_true this
  omega
theorem psI_pos {s:ByteArray} (h0:0 < s.size) (hn:¬ (s[0].toNat:Int)=45) {n:Int} (h1:-9223372036854775808≤n) (h2:n≤9223372036854775807) (h:itoaB n=s) :
    0≤n∧(dval 0 s.data.toList:Int)=n∧isDg s=true∧s.size≤19:=by
  have hl:s.data.toList=Lib.itoa n:=by rw [← h];simp [itoaB]
  have hs:s.data.toList.length=s.size:=by simp
  by_cases g:0≤n
  · obtain ⟨u,rfl⟩:=Int.eq_ofNat_of_zero_le g
    rw [show ((u:Nat):Int)=(u:Int) from rfl,Lib.itoa_nonneg] at hl
    refine ⟨g,by rw [hl,dval_dec],dec_isDg s u hl,?_⟩
    have:=dec_len 18 u (by omega)
    rw [← hl] at this
    omega
  · exfalso
    obtain ⟨u,rfl⟩:∃ u:Nat,n = -(u:Int):=⟨n.natAbs,by omega⟩
    rw [Lib.itoa_neg u (by omega)] at hl
    have hd:=sdrop s h0
    rw [List.drop_zero,hl] at hd
    injection hd with hd _
    rw [← hd] at hn
    exact hn rfl
theorem psI_neg {s T:ByteArray} (h0:0 < s.size) (hn:(s[0].toNat:Int)=45) (hT:T.data.toList=s.data.toList.drop 1) {n:Int} (h1:-9223372036854775808≤n) (h2:n≤9223372036854775807) (h:itoaB n=s) :
    n≤0∧-(dval 0 T.data.toList:Int)=n∧isDg T=true∧T.size≤19:=by
  have hl:s.data.toList=Lib.itoa n:=by rw [← h];simp [itoaB]
  have hs:T.data.toList.length=T.size:=by simp
  by_cases g:0≤n
  · exfalso
    obtain ⟨u,rfl⟩:=Int.eq_ofNat_of_zero_le g
    rw [show ((u:Nat):Int)=(u:Int) from rfl,Lib.itoa_nonneg] at hl
    have hd:=sdrop s h0
    rw [List.drop_zero,hl] at hd
    have:=dec_digits u s[0] (by rw [hd];exact List.mem_cons_self)
    omega
  · obtain ⟨u,rfl⟩:∃ u:Nat,n = -(u:Int):=⟨n.natAbs,by omega⟩
    rw [Lib.itoa_neg u (by omega)] at hl
    rw [hl] at hT
    have hT:T.data.toList=Lib.decDigits u:=hT
    refine ⟨by omega,by rw [hT,dval_dec],dec_isDg T u hT,?_⟩
    have:=dec_len 18 u (by omega)
    rw [← hT] at this
    omega
theorem spec_ParseInt_c (s:ByteArray) (w:World) (hs:s.size≤4194304):Calls Tryz.prog 170 #[.string s] w fun e w'=>e=.returned (vPair (psI s))∧Below w.heap.size w w':=by
  by_cases h0:0 < s.size
  · by_cases hneg:(s[0].toNat:Int)=45
    · have hT1:(s.extract 1 s.size).data.toList=s.data.toList.drop 1:=by
        rw [ext_list];exact List.take_of_length_le (by simp)
      have hT2:(s.extract 1 s.size).size=s.size - 1:=by
        have h:(s.extract 1 s.size).data.toList.length=(s.extract 1 s.size).size:=by simp
        have h2:s.data.toList.length=s.size:=by simp
        rw [hT1,List.length_drop] at h
        omega
      have h1s:(1:Int)≤(s.size:Int):=by omega
      go_enter Tryz.func170,Tryz.ntmps170
      go_wp2_with fail
      generalize s.extract 1 s.size=T at hT1 hT2 ⊢
      have HL:=Lib.hid (fun n h1 h2 h3=>psI_neg h0 hneg hT1 (n:=n) h1 h2 h3)
      have HT1:=Lib.hid hT1
      clear hT1
      by_cases hd:isDg T=true
      · by_cases hl:T.size≤19
        · go_wp2_with (go_at_call 198;refine (spec_IsDigits_c _ _ (by omega)).mono ?_;rintro e wf ⟨rfl,rfl⟩;rw [hd])
          go_loopw [6,7,8] (fun n i d wr=>∃ (k:Nat),k≤T.size∧n=.int .i64 (-(dval 0 (T.data.toList.take k):Int))∧i=.int .i64 (k:Int)∧dval 0 (T.data.toList.take k)≤9223372036854775808∧wr=w) (fun n i d wr=>T.size - (intOf i).toNat)
          case atStart=>exact ⟨0,Nat.zero_le _,rfl,rfl,Nat.zero_le _,rfl⟩
          case round =>
            obtain ⟨k,hk,rfl,rfl,hv,rfl⟩:=hrel
            by_cases hlt:k < T.size
            · have hdg:=isDg_at hd hlt
              have hn:=dval_next hlt
              have ht:=dval_take T.data.toList (k+1)
              obtain ⟨v,hve⟩:∃ v,v=dval 0 (T.data.toList.take k):=⟨_,rfl⟩
              rw [← hve] at hv hn ⊢
              have HT:=Lib.hid ht
              have HN:=Lib.hid hn
              clear ht hn
              by_cases ov:v * 10+(T[k].toNat - 48)≤9223372036854775808
              · have hq:¬ (-(v:Int)) < (-9223372036854775808+((T[k].toNat:Int) - 48)).tdiv 10:=by rw [tq (by omega) (by omega)];omega
                go_wp2_with fail
                exact ⟨⟨k+1,by omega,by rw [HN.out];congr 1;omega,by simp,by rw [HN.out];exact ov,by simp⟩,by simp only [intOf];omega⟩
              · have hq:(-(v:Int)) < (-9223372036854775808+((T[k].toNat:Int) - 48)).tdiv 10:=by rw [tq (by omega) (by omega)];omega
                go_wp2_with fail
                refine bodyPost_ret (v:=.tuple #[.int .i64 0,.bool false]) (by simp [*,results,Tryz.results170,go_sem]) rfl ⟨?_,Below.refl _ _⟩
                rw [psI_none];rfl
                intro n h1 h2 h3
                have:=HL.out n h1 h2 h3
                have:=HT.out
                have:=HN.out
                omega
            · obtain rfl:k=T.size:=by omega
              have hT:T.data.toList.take T.size=T.data.toList:=List.take_of_length_le (by simp)
              rw [hT] at hv ⊢
              obtain ⟨v,hve⟩:∃ v,v=dval 0 T.data.toList:=⟨_,rfl⟩
              rw [← hve] at hv ⊢
              have HE:=Lib.hid hve
              clear hve hT
              cases he:((itoaB (-(v:Int))).toList == s.toList) with
              | true =>
                have HS:=Lib.hid (toL_inj (eq_of_beq he))
                go_wp2_with (go_at_call 81;refine (spec_FormatInt_c (-(v:Int)) _ (by omega) (by omega)).mono ?_;rintro e wf ⟨rfl,hbf⟩)
                refine bodyPost_ret (v:=.tuple #[.int .i64 (-(v:Int)),.bool true]) (by simp [*,results,Tryz.results170,go_sem]) rfl ⟨?_,hbf⟩
                rw [psI_some (by omega) (by omega) HS.out];rfl
              | false =>
                have HS:=Lib.hid (show ¬ itoaB (-(v:Int))=s from fun e=>by rw [e] at he;simp at he)
                go_wp2_with (go_at_call 81;refine (spec_FormatInt_c (-(v:Int)) _ (by omega) (by omega)).mono ?_;rintro e wf ⟨rfl,hbf⟩)
                refine bodyPost_ret (v:=.tuple #[.int .i64 0,.bool false]) (by simp [*,results,Tryz.results170,go_sem]) rfl ⟨?_,hbf⟩
                rw [psI_none];rfl
                intro n h1 h2 h3
                have h4:=HL.out n h1 h2 h3
                have h5:=HE.out
                have h6:n = -(v:Int):=by omega
                rw [h6] at h3
                exact HS.out h3
        · go_wp2_with (go_at_call 198;refine (spec_IsDigits_c _ _ (by omega)).mono ?_;rintro e wf ⟨rfl,rfl⟩;rw [hd])
          refine bodyPost_ret (v:=.tuple #[.int .i64 0,.bool false]) (by simp [*,results,Tryz.results170,go_sem]) rfl ⟨?_,Below.refl _ _⟩
          rw [psI_none];rfl
          intro n h1 h2 h3
          have:=HL.out n h1 h2 h3
          omega
      · have hd:isDg T=false:=by simpa using hd
        go_wp2_with (go_at_call 198;refine (spec_IsDigits_c _ _ (by omega)).mono ?_;rintro e wf ⟨rfl,rfl⟩;rw [hd])
        refine bodyPost_ret (v:=.tuple #[.int .i64 0,.bool false]) (by simp [*,results,Tryz.results170,go_sem]) rfl ⟨?_,Below.refl _ _⟩
        rw [psI_none];rfl
        intro n h1 h2 h3
        have:=(HL.out n h1 h2 h3).2.2.1
        rw [hd] at this;cases this
    · go_enter Tryz.func170,Tryz.ntmps170
      by_cases hd:isDg s=true
      · by_cases hl:s.size≤19
        · go_wp2_with (go_at_call 198;refine (spec_IsDigits_c _ _ (by omega)).mono ?_;rintro e wf ⟨rfl,rfl⟩;rw [hd])
          go_loopw [6,7,8] (fun n i d wr=>∃ (k:Nat),k≤s.size∧n=.int .i64 (-(dval 0 (s.data.toList.take k):Int))∧i=.int .i64 (k:Int)∧dval 0 (s.data.toList.take k)≤9223372036854775808∧wr=w) (fun n i d wr=>s.size - (intOf i).toNat)
          case atStart=>exact ⟨0,Nat.zero_le _,rfl,rfl,Nat.zero_le _,rfl⟩
          case round =>
            obtain ⟨k,hk,rfl,rfl,hv,rfl⟩:=hrel
            by_cases hlt:k < s.size
            · have hdg:=isDg_at hd hlt
              have hn:=dval_next hlt
              have ht:=dval_take s.data.toList (k+1)
              obtain ⟨v,hve⟩:∃ v,v=dval 0 (s.data.toList.take k):=⟨_,rfl⟩
              rw [← hve] at hv hn ⊢
              have HT:=Lib.hid ht
              have HN:=Lib.hid hn
              clear ht hn
              by_cases ov:v * 10+(s[k].toNat - 48)≤9223372036854775808
              · have hq:¬ (-(v:Int)) < (-9223372036854775808+((s[k].toNat:Int) - 48)).tdiv 10:=by rw [tq (by omega) (by omega)];omega
                go_wp2_with fail
                exact ⟨⟨k+1,by omega,by rw [HN.out];congr 1;omega,by simp,by rw [HN.out];exact ov,by simp⟩,by simp only [intOf];omega⟩
              · have hq:(-(v:Int)) < (-9223372036854775808+((s[k].toNat:Int) - 48)).tdiv 10:=by rw [tq (by omega) (by omega)];omega
                go_wp2_with fail
                refine bodyPost_ret (v:=.tuple #[.int .i64 0,.bool false]) (by simp [*,results,Tryz.results170,go_sem]) rfl ⟨?_,Below.refl _ _⟩
                rw [psI_none];rfl
                intro n h1 h2 h3
                have:=psI_pos h0 hneg h1 h2 h3
                have:=HT.out
                have:=HN.out
                omega
            · obtain rfl:k=s.size:=by omega
              have hT:s.data.toList.take s.size=s.data.toList:=List.take_of_length_le (by simp)
              rw [hT] at hv ⊢
              have HP:=Lib.hid (fun n h1 h2 h3=>psI_pos h0 hneg (n:=n) h1 h2 h3)
              obtain ⟨v,hve⟩:∃ v,v=dval 0 s.data.toList:=⟨_,rfl⟩
              rw [← hve] at hv ⊢
              have HE:=Lib.hid hve
              clear hve hT
              by_cases hm:v=9223372036854775808
              · subst hm
                go_wp2_with fail
                refine bodyPost_ret (v:=.tuple #[.int .i64 0,.bool false]) (by simp [*,results,Tryz.results170,go_sem]) rfl ⟨?_,Below.refl _ _⟩
                rw [psI_none];rfl
                intro n h1 h2 h3
                have:=HP.out n h1 h2 h3
                have:=HE.out
                omega
              · have hm2:((-(v:Int)) == -9223372036854775808)=false:=by simp;omega
                have hm3:(v:Int)≤9223372036854775807:=by omega
                cases he:((itoaB (v:Int)).toList == s.toList) with
                | true =>
                  have HS:=Lib.hid (toL_inj (eq_of_beq he))
                  go_wp2_with (go_at_call 81;refine (spec_FormatInt_c (v:Int) _ (by omega) (by omega)).mono ?_;rintro e wf ⟨rfl,hbf⟩)
                  refine bodyPost_ret (v:=.tuple #[.int .i64 (v:Int),.bool true]) (by simp [*,results,Tryz.results170,go_sem]) rfl ⟨?_,hbf⟩
                  rw [psI_some (by omega) (by omega) HS.out];rfl
                | false =>
                  have HS:=Lib.hid (show ¬ itoaB (v:Int)=s from fun e=>by rw [e] at he;simp at he)
                  go_wp2_with (go_at_call 81;refine (spec_FormatInt_c (v:Int) _ (by omega) (by omega)).mono ?_;rintro e wf ⟨rfl,hbf⟩)
                  refine bodyPost_ret (v:=.tuple #[.int .i64 0,.bool false]) (by simp [*,results,Tryz.results170,go_sem]) rfl ⟨?_,hbf⟩
                  rw [psI_none];rfl
                  intro n h1 h2 h3
                  have h4:=HP.out n h1 h2 h3
                  have h5:=HE.out
                  have h6:n=(v:Int):=by omega
                  rw [h6] at h3
                  exact HS.out h3
        · go_wp2_with (go_at_call 198;refine (spec_IsDigits_c _ _ (by omega)).mono ?_;rintro e wf ⟨rfl,rfl⟩;rw [hd])
          refine bodyPost_ret (v:=.tuple #[.int .i64 0,.bool false]) (by simp [*,results,Tryz.results170,go_sem]) rfl ⟨?_,Below.refl _ _⟩
          rw [psI_none];rfl
          intro n h1 h2 h3
          have:=psI_pos h0 hneg h1 h2 h3
          omega
      · have hd:isDg s=false:=by simpa using hd
        go_wp2_with (go_at_call 198;refine (spec_IsDigits_c _ _ (by omega)).mono ?_;rintro e wf ⟨rfl,rfl⟩;rw [hd])
        refine bodyPost_ret (v:=.tuple #[.int .i64 0,.bool false]) (by simp [*,results,Tryz.results170,go_sem]) rfl ⟨?_,Below.refl _ _⟩
        rw [psI_none];rfl
        intro n h1 h2 h3
        have:=(psI_pos h0 hneg h1 h2 h3).2.2.1
        rw [hd] at this;cases this
  · have hd:isDg s=false:=by unfold isDg;rw [show decide (0 < s.size)=false from decide_eq_false h0,Bool.and_false]
    have hz:s.size=0:=by omega
    go_enter Tryz.func170,Tryz.ntmps170
    go_wp2_with (go_at_call 198;refine (spec_IsDigits_c _ _ (by omega)).mono ?_;rintro e wf ⟨rfl,rfl⟩;rw [hd])
    refine bodyPost_ret (v:=.tuple #[.int .i64 0,.bool false]) (by simp [*,results,Tryz.results170,go_sem]) rfl ⟨?_,Below.refl _ _⟩
    rw [psI_none];rfl
    intro n h1 h2 h3
    have hl:s.data.toList=Lib.itoa n:=by rw [← h3];simp [itoaB]
    have hs:s.data.toList.length=s.size:=by simp
    have:=List.length_pos_iff.2 (itoa_ne n)
    rw [← hl] at this
    omega
end Go.Proofs.YtdfemnffpaopfaaGreatDoor
