/- Walk: units.known. -/
import Derived.Test.YtpbdjpfbhicmdaaGreatDoorCbxah
import Derived.Test.YtpbdjpfbhicmdaaGreatDoorCbxaq
import Derived.DeepKeys4
import Derived.Maps.OwnOps
set_option linter.unusedSimpArgs false
set_option linter.unusedVariables false
set_option maxRecDepth 100000
set_option maxHeartbeats 6400000
namespace Go.Proofs.YtpbdjpfbhicmdaaGreatDoor
open Go.RowKit
def UnP (w w' : World) (u en : Int) (e : Ending) : Prop :=
  (en=0∧e = .returned (.int .i64 u)∨en≠0∧∃ (A : Option Addr) (n c : Nat),e = .panicked [{ v:=.iface 125 (.agg #[.slice A n c,.int .i64 en]),recovered:=false }])∧Below w.heap.size w w'
theorem un_known_member (s : ByteArray) (p : Sl Int) (w : World) (hp : Rd (· < w.heap.size) 1 ienc w p) (hb : p.l.length≤1000000) : Calls Tryz.prog 138 #[.func (.func 140) #[] #[],.string s,.slice p.A p.l.length p.c] w fun e w'=>UnP w w' ((memU s).getD 0) (if (memU s).isSome then 0 else 14) e:=by
 have HT:=Zh (fun w2=>un_member s w2);have HP:=Zh hp;clear hp;rcases hu : memU s with _ | u
 ·rw [hu] at HT;clear hu;simp only [optV,Option.getD,Option.isSome] at HT ⊢;go_enter Tryz.func138,Tryz.ntmps138;go_wp2_with fail;refine (HT.out _).mono ?_;rintro e w' ⟨rfl,rfl⟩;go_wp2_with fail;refine (clone_int p _ HP.out Zo).mono ?_;rintro e w3 ⟨cA,cc,rfl,hown,hb3⟩;simp only;go_wp2_with fail;exact ⟨rfl,.inr ⟨by decide,cA,_,cc,rfl⟩,hb3⟩
 ·rw [hu] at HT;clear hu;simp only [optV,Option.getD,Option.isSome] at HT ⊢;go_enter Tryz.func138,Tryz.ntmps138;go_wp2_with fail;refine (HT.out _).mono ?_;rintro e w' ⟨rfl,rfl⟩;go_wp2_with fail;go_ret;exact ⟨.inl ⟨rfl,rfl⟩,Below.refl _ _⟩
theorem un_known_trip (s : ByteArray) (p : Sl Int) (w : World) (hp : Rd (· < w.heap.size) 1 ienc w p) (hb : p.l.length≤1000000) : Calls Tryz.prog 138 #[.func (.func 139) #[] #[],.string s,.slice p.A p.l.length p.c] w fun e w'=>UnP w w' ((triU s).getD 0) (if (triU s).isSome then 0 else 14) e:=by
 have HT:=Zh (fun w2=>un_trip s w2);have HP:=Zh hp;clear hp;rcases hu : triU s with _ | u
 ·rw [hu] at HT;clear hu;simp only [optV,Option.getD,Option.isSome] at HT ⊢;go_enter Tryz.func138,Tryz.ntmps138;go_wp2_with fail;refine (HT.out _).mono ?_;rintro e w' ⟨rfl,rfl⟩;go_wp2_with fail;refine (clone_int p _ HP.out Zo).mono ?_;rintro e w3 ⟨cA,cc,rfl,hown,hb3⟩;simp only;go_wp2_with fail;exact ⟨rfl,.inr ⟨by decide,cA,_,cc,rfl⟩,hb3⟩
 ·rw [hu] at HT;clear hu;simp only [optV,Option.getD,Option.isSome] at HT ⊢;go_enter Tryz.func138,Tryz.ntmps138;go_wp2_with fail;refine (HT.out _).mono ?_;rintro e w' ⟨rfl,rfl⟩;go_wp2_with fail;go_ret;exact ⟨.inl ⟨rfl,rfl⟩,Below.refl _ _⟩
def seqU : List (Int × Int)→List Int × Int
  | []=>([],0)
  | (u,e) :: r=>if e=0 then (u :: (seqU r).1,(seqU r).2) else ([],e)
def knU (u : Option Int) : Int × Int:=(u.getD 0,if u.isSome then 0 else 14)
def unU (L : List LT) (U : List Int) : Nat→PT→Int × Int
  | 0,_=>(0,0)
  | k+1,⟨o,_,u,s,_,_,l⟩ =>
    if o=0 then (u,0)
    else if o=2 then knU (triU s)
    else if o=3 then knU (memU s)
    else if o=1 then (if nameU s L U = -1 then (0,14) else (nameU s L U,0))
    else if (seqU (l.map (unU L U k))).2≠0 then (0,(seqU (l.map (unU L U k))).2)
    else if joinU o (seqU (l.map (unU L U k))).1 = -1 then (0,13)
    else (joinU o (seqU (l.map (unU L U k))).1,0)
theorem seqU_append_ok : ∀ (a b : List (Int × Int)),(seqU a).2=0→seqU (a ++ b)=((seqU a).1 ++ (seqU b).1,(seqU b).2)
 | [],b,_=>rfl
 | (u,e) :: r,b,h=>by
  by_cases he : e=0
  ·(have hr : (seqU r).2=0:=by simpa [seqU,he] using h);simp [seqU,he,seqU_append_ok r b hr]
  ·exact absurd h (by simp [seqU,he])
theorem seqU_append_no : ∀ (a b : List (Int × Int)) (u e : Int),(seqU a).2=0→e≠0→(seqU (a ++ (u,e) :: b)).2=e
 | a,b,u,e,h,he=>by rw [seqU_append_ok a _ h]; simp [seqU,he]
theorem seqU_len : ∀ a : List (Int × Int),(seqU a).2=0→(seqU a).1.length=a.length
 | [],_=>rfl
 | (u,e) :: r,h=>by
  by_cases he : e=0
  ·(have hr : (seqU r).2=0:=by simpa [seqU,he] using h);simp [seqU,he,seqU_len r hr]
  ·exact absurd h (by simp [seqU,he])
structure FT where
  nm : ByteArray
  v : Int
def sameB (a b : ByteArray) : Bool:=a.toList == b.toList
def wholeF (n : Int) : FrR:=⟨n,1,0⟩
def truF (b : Bool) : FrR:=wholeF (if b then 1 else 0)
def factF (s : ByteArray) : List FT→FrR
  | []=>FrR.bad 14
  | f :: r=>if sameB f.nm s=true then wholeF f.v else factF s r
def isF (x : FrR) : Bool:=!decide (x.p=0)
def appF (op : Int) (a b : FrR) : FrR :=
  if op=4 then addF a.p a.q b.p b.q
  else if op=5 then subF a.p a.q b.p b.q
  else if op=6 then mulF a.p a.q b.p b.q
  else if op=7 then divF a.p a.q b.p b.q
  else if op=10 then truF (decide (cmpI a.p a.q b.p b.q<0))
  else if op=11 then truF (decide (cmpI a.p a.q b.p b.q=0))
  else if decide (cmpI a.p a.q b.p b.q > 0)=decide (op=8) then b else a
def twoF (op : Int) (a b : FrR) : FrR:=if a.e≠0 then FrR.bad a.e else if b.e≠0 then FrR.bad b.e else appF op a b
def notF (a : FrR) : FrR:=if a.e≠0 then FrR.bad a.e else truF (!isF a)
def andF (a b : FrR) : FrR:=if a.e≠0 then FrR.bad a.e else if isF a=false then truF false else if b.e≠0 then FrR.bad b.e else truF (isF b)
def orF (a b : FrR) : FrR:=if a.e≠0 then FrR.bad a.e else if isF a=true then truF true else if b.e≠0 then FrR.bad b.e else truF (isF b)
def iteF (a b c : FrR) : FrR:=if a.e≠0 then FrR.bad a.e else if isF a=true then b else c
def opF (o : Int) : List FrR→FrR
  | [a]=>notF a
  | [a,b]=>if o=13 then andF a b else if o=14 then orF a b else twoF o a b
  | [a,b,c]=>iteF a b c
  | _=>FrR.bad 1
def evE (lk : ByteArray→FrR) (T M : List FT) : Nat→PT→FrR
  | 0,_=>FrR.bad 1
  | k+1,⟨o,n,_,s,_,_,l⟩ =>
    if o=0 then wholeF n
    else if o=1 then lk s
    else if o=2 then factF s T
    else if o=3 then factF s M
    else opF o (l.map (evE lk T M k))
def lkF (s : ByteArray) : List LT→List FrR→FrR
  | x :: L,v :: V=>if sameB x.nm s=true then v else lkF s L V
  | _,_=>FrR.bad 14
def lvN (T M : List FT) (L : List LT) : Nat→List FrR
  | 0=>[]
  | k+1=>match L[k]? with
    | some x=>lvN T M L k ++ [evE (fun s=>lkF s (L.take k) (lvN T M L k)) T M 12 x.b]
    | none=>lvN T M L k
theorem lvN_len (T M : List FT) (L : List LT) : ∀ k,k≤L.length→(lvN T M L k).length=k
 | 0,_=>rfl
 | k+1,h=>by
  unfold lvN;rw [List.getElem?_eq_getElem Zo];simp [lvN_len T M L k Zo]
theorem lvN_succ (T M : List FT) {L : List LT} {k : Nat} {x : LT} (h : L[k]? = some x) : lvN T M L (k+1)=lvN T M L k ++ [evE (fun s=>lkF s (L.take k) (lvN T M L k)) T M 12 x.b]:=by
 (conv=>lhs; unfold lvN);rw [h]
theorem lvN_at (T M : List FT) {L : List LT} {k : Nat} {x : LT} (hx : L[k]? = some x) : ∀ n,k<n→n≤L.length→(lvN T M L n)[k]? = some (evE (fun s=>lkF s (L.take k) (lvN T M L k)) T M 12 x.b)
 | 0,h,_=>absurd h Zo
 | n+1,h,hn=>by
  have hy : L[n]? = some L[n]:=List.getElem?_eq_getElem Zo;rw [lvN_succ T M hy];by_cases hk : k=n
  ·subst hk;rw [hy] at hx;injection hx with hx;rw [List.getElem?_append_right (by rw [lvN_len T M L k Zo]; exact Nat.le_refl _),lvN_len T M L k Zo,Nat.sub_self,hx];rfl
  ·rw [List.getElem?_append_left (by rw [lvN_len T M L n Zo]; omega)];exact lvN_at T M hx n Zo Zo
def evN (T M : List FT) (L : List LT) (n : Nat) (k : Nat) (e : PT) : FrR:=evE (fun s=>lkF s (L.take n) (lvN T M L n)) T M k e
theorem lkF_none {s : ByteArray} : ∀ {L : List LT} {V : List FrR},(∀ x ∈ L,sameB x.nm s=false)→lkF s L V=FrR.bad 14
 | [],_,_=>by unfold lkF; rfl
 | x :: L,[],_=>by unfold lkF; rfl
 | x :: L,u :: U,h=>by
  unfold lkF;rw [if_neg (by rw [h x (List.mem_cons_self ..)]; simp)];exact lkF_none fun y hy=>h y (List.mem_cons_of_mem _ hy)
theorem lkF_at {s : ByteArray} : ∀ {L : List LT} {V : List FrR} {j : Nat} {x : LT} {u : FrR},L[j]? = some x→V[j]? = some u→sameB x.nm s=true→(∀ y ∈ L.take j,sameB y.nm s=false)→lkF s L V=u
 | [],_,j,_,_,h,_,_,_=>by simp at h
 | x :: L,[],j,_,_,_,h,_,_=>by simp at h
 | x :: L,u :: U,0,y,v,h1,h2,h3,_=>by
  simp only [List.getElem?_cons_zero,Option.some.injEq] at h1 h2;subst h1 h2;unfold lkF;rw [if_pos h3]
 | x :: L,u :: U,j+1,y,v,h1,h2,h3,h4=>by
  unfold lkF;rw [if_neg (by rw [h4 x Zs]; simp)];refine lkF_at (j:=j) (by simpa using h1) (by simpa using h2) h3 fun z hz=>h4 z ?_;rw [List.take_succ_cons];exact List.mem_cons_of_mem _ hz
theorem factF_none {s : ByteArray} : ∀ {l : List FT},(∀ x ∈ l,sameB x.nm s=false)→factF s l=FrR.bad 14
 | [],_=>rfl
 | x :: l,h=>by
  unfold factF;rw [if_neg (by rw [h x (List.mem_cons_self ..)]; simp)];exact factF_none fun y hy=>h y (List.mem_cons_of_mem _ hy)
theorem factF_at {s : ByteArray} : ∀ {l : List FT} {j : Nat} {x : FT},l[j]? = some x→sameB x.nm s=true→(∀ y ∈ l.take j,sameB y.nm s=false)→factF s l=wholeF x.v
 | [],j,_,h,_,_=>by simp at h
 | x :: l,0,y,h1,h3,_=>by
  simp only [List.getElem?_cons_zero,Option.some.injEq] at h1;subst h1;unfold factF;rw [if_pos h3]
 | x :: l,j+1,y,h1,h3,h4=>by
  unfold factF;rw [if_neg (by rw [h4 x Zs]; simp)];refine factF_at (j:=j) (by simpa using h1) h3 fun z hz=>h4 z ?_;rw [List.take_succ_cons];exact List.mem_cons_of_mem _ hz
theorem lk_let (T M : List FT) {L : List LT} {n k : Nat} {x : LT} {s : ByteArray} (hn : n≤L.length) (hx : (L.take n)[k]? = some x) (hs : sameB x.nm s=true) (hb : ∀ y ∈ (L.take n).take k,sameB y.nm s=false) : lkF s (L.take n) (lvN T M L n)=evN T M L k 12 x.b:=by
 have hk : k<n:=by
  have:=(List.getElem?_eq_some_iff.1 hx).1;rw [List.length_take] at this; omega
 (have hx2 : L[k]? = some x:=by rw [List.getElem?_take,if_pos hk] at hx; exact hx);exact lkF_at hx (lvN_at T M hx2 n hk hn) hs hb
def factsB (l : List FT) : Bool:=decide ((l.length : Int)≤40) && l.all (fun f=>nameB f.nm && (decide (-1000000000000000≤f.v) && decide (f.v≤1000000000000000)))
def evalF (L : List LT) (e : PT) (T M : List FT) : FrR :=
  if rexp e=true∧(L.length : Int)≤20∧L.all (fun x=>rexp x.b)=true∧factsB T=true∧factsB M=true then evN T M L L.length 12 e else FrR.bad 1
section
open Go.Maps (Keyed)
theorem keyLaw : Keyed Tryz.prog 3:=Maps.int_keyed Tryz.underlying3
theorem key_at {d : Int} (hd : I64 d) : ∃ l,keyOf Tryz.prog 3 (.int .i64 d)=some l :=
 ⟨_,Maps.keyOf_int_mk Tryz.underlying3 (by unfold I64 at hd; exact WalkArith.wf_i64 Zo)⟩
def MapI (w : World) (b : Nat) (L : List (Int × Value)) : Prop :=
  ∃ es clock,w.heap[b]? = some (.map es clock)∧es.toList.map (fun e=>(e.key,e.val))=L.map (fun p=>(Value.int .i64 p.1,p.2))∧∀ p,p ∈ L→I64 p.1
theorem MapI.made (w : World) : MapI (w.alloc (.map #[] 0)) w.heap.size []:=⟨#[],0,(MapKept.heap_alloc w _).1,rfl,fun p hp=>by cases hp⟩
theorem MapI.keep {w w' : World} {b : Nat} {L : List (Int × Value)} (h : MapI w b L) (hk : w'.heap[b]? = w.heap[b]?) : MapI w' b L:=by
 obtain ⟨es,clock,h1,h2⟩:=h;exact ⟨es,clock,hk.trans h1,h2⟩
theorem MapI.lt {w : World} {b : Nat} {L : List (Int × Value)} (h : MapI w b L) : b<w.heap.size:=by
 obtain ⟨es,clock,hb,_⟩:=h;exact (Array.getElem?_eq_some_iff.1 hb).1
theorem MapI.below {w w' : World} {b B : Nat} {L : List (Int × Value)} (h : MapI w b L) (hb : Below B w w') (hB : b<B) : MapI w' b L:=h.keep (hb.block b hB)
theorem MapI.later {w w' : World} {b : Nat} {L : List (Int × Value)} (h : MapI w b L) (hb : Below w.heap.size w w') : MapI w' b L:=h.keep (hb.block b h.lt)
theorem MapI.grown {w w' : World} {b : Nat} {row : Option Nat} {L : List (Int × Value)} (h : MapI w b L) (hb : w.grownBy w' row) (hne : some b≠row) : MapI w' b L:=h.keep (hb.block b h.lt hne)
theorem MapI.set_ {w : World} {b : Nat} {L : List (Int × Value)} (h : MapI w b L) {p : Addr} (hp : b≠p.block) (u : Value) : MapI (w.setCell p u) b L:=h.keep (Below.heap_setCell w p u b hp)
theorem MapI.alloc {w : World} {b : Nat} {L : List (Int × Value)} (h : MapI w b L) (o : Obj) : MapI (w.alloc o) b L:=h.keep (Below.heap_alloc w o b h.lt)
section
variable {w : World} {b : Nat} {L : List (Int × Value)} {d : Int}
theorem MapI.keys (h : MapI w b L) : ∃ es clock,w.heap[b]? = some (.map es clock)∧(∀ e,e ∈ es.toList→∃ p,p ∈ L∧e.key = .int .i64 p.1∧e.val=p.2)∧(∀ p,p ∈ L→∃ e,e ∈ es.toList∧e.key = .int .i64 p.1∧e.val=p.2)∧(∀ e,e ∈ es.toList→∃ l,keyOf Tryz.prog 3 e.key=some l):=by
 obtain ⟨es,clock,hb,he,hi⟩:=h
 have h1 : ∀ e,e ∈ es.toList→∃ p,p ∈ L∧e.key = .int .i64 p.1∧e.val=p.2:=by
  intro e hm;have : (e.key,e.val) ∈ es.toList.map (fun e=>(e.key,e.val)):=List.mem_map_of_mem (f:=fun e : MapEntry=>(e.key,e.val)) hm;rw [he] at this;obtain ⟨p,hp,hq⟩:=List.mem_map.1 this;simp only [Prod.mk.injEq] at hq;exact ⟨p,hp,hq.1.symm,hq.2.symm⟩
 refine ⟨es,clock,hb,h1,fun p hp=>?_,fun e hm=>?_⟩
 ·have : (Value.int .i64 p.1,p.2) ∈ L.map (fun p=>(Value.int .i64 p.1,p.2)):=List.mem_map_of_mem (f:=fun p : Int × Value=>(Value.int .i64 p.1,p.2)) hp;rw [← he] at this;obtain ⟨e,hm,hq⟩:=List.mem_map.1 this;simp only [Prod.mk.injEq] at hq;exact ⟨e,hm,hq.1,hq.2⟩
 ·obtain ⟨p,hp,hk,_⟩:=h1 e hm;rw [hk];exact key_at (hi p hp)
theorem run_look_no {t e : TypeId} {z : Value} (ht : Tryz.prog.underlying t=some (.map 3 e)) (hz : (zeroValue e).run Tryz.prog w = .ok z w) (h : MapI w b L) (hd : I64 d) (hno : ∀ p,p ∈ L→p.1≠d) : (Instr.lookup t (.map (some b)) (.int .i64 d) true).run Tryz.prog w = .ok (.tuple #[z,.bool false]) w:=by
 obtain ⟨es,clock,hb,h1,h2,h3⟩:=h.keys;obtain ⟨l,hl⟩:=key_at hd;rcases keyLaw.find w hl es.toList h3 with ⟨hf,_⟩ | ⟨j,e0,hf,hj,hk⟩
 ·simp [Instr.lookup,run_underlying ht,MapKept.run_getObj_map hb,keyLaw.check w _ hl,hf,hz,Result.andThen]
 ·exfalso;obtain ⟨p,hp,hpk,_⟩:=h1 e0 (List.mem_of_getElem? hj);rw [hk] at hpk;(have e1 : d=p.1:=by injection hpk);exact hno p hp (e1.symm)
theorem run_look_yes {t e : TypeId} {v : Value} (ht : Tryz.prog.underlying t=some (.map 3 e)) (h : MapI w b L) (hd : I64 d) (hv : (d,v) ∈ L) (hu : ∀ p,p ∈ L→p.1=d→p.2=v) : (Instr.lookup t (.map (some b)) (.int .i64 d) true).run Tryz.prog w = .ok (.tuple #[v,.bool true]) w:=by
 obtain ⟨es,clock,hb,h1,h2,h3⟩:=h.keys;obtain ⟨l,hl⟩:=key_at hd;rcases keyLaw.find w hl es.toList h3 with ⟨hf,hno⟩ | ⟨j,e0,hf,hj,hk⟩
 ·exfalso;obtain ⟨e1,hm,hk,_⟩:=h2 _ hv;exact hno e1 hm hk
 ·obtain ⟨p,hp,hpk,hpv⟩:=h1 e0 (List.mem_of_getElem? hj);rw [hk] at hpk;(have e1 : d=p.1:=by injection hpk);have : e0.val=v:=hpv.trans (hu p hp (e1.symm));simp [Instr.lookup,run_underlying ht,MapKept.run_getObj_map hb,keyLaw.check w _ hl,hf,this,Result.andThen]
theorem run_store_new {t e : TypeId} {v : Value} (ht : Tryz.prog.underlying t=some (.map 3 e)) (h : MapI w b L) (hd : I64 d) (hno : ∀ p,p ∈ L→p.1≠d) : ∃ w',(Instr.mapUpdate t (.map (some b)) (.int .i64 d) v).run Tryz.prog w = .ok () w'∧MapI w' b (L ++ [(d,v)])∧w.grownBy w' (some b):=by
 obtain ⟨es,clock,hb,h1,h2,h3⟩:=h.keys;obtain ⟨l,hl⟩:=key_at hd;have hL:=h;obtain ⟨es',clock',hb',he',hi'⟩:=hL;rw [hb] at hb';injection hb' with hb';injection hb' with hb1 hb2;subst hb1;rcases keyLaw.find w hl es.toList h3 with ⟨hf,_⟩ | ⟨j,e0,hf,hj,hk⟩
 ·refine ⟨ChangeMaps.setBlock w b (.map (es.push ⟨.int .i64 d,v,clock⟩) (clock+1)), ?_,⟨_,_,ChangeMaps.heap_setBlock_same hb _, ?_, ?_⟩,⟨rfl,rfl,rfl,by simp [ChangeMaps.setBlock],fun i _ hi=>ChangeMaps.heap_setBlock_other hb _ (fun e=>hi (by rw [e]))⟩⟩
  ·simp [Instr.mapUpdate,run_underlying ht,MapKept.run_getObj_map hb,keyLaw.check w false hl,hf,MapKept.run_setObj_map _ hb,Result.andThen,ChangeMaps.setBlock]
  ·rw [Array.toList_push,List.map_append,he',List.map_append]; rfl
  ·intro p hp;rcases List.mem_append.1 hp with hp | hp
   ·exact hi' p hp
   ·rw [List.mem_singleton.1 hp]; exact hd
 ·exfalso;obtain ⟨p,hp,hpk,_⟩:=h1 e0 (List.mem_of_getElem? hj);rw [hk] at hpk;(have e1 : d=p.1:=by injection hpk);exact hno p hp (e1.symm)
variable {ops : Array Oper} {rest : List Oper} {o : Oper} {a : Act} {Q : Exit→Act→World→Prop}
theorem wpl_look_no (hg : o.guard=none) (m x : Operand) (t : TypeId) (hop : o.op = .lookup t m x true) (e : TypeId) (z : Value) (ht : Tryz.prog.underlying t=some (.map 3 e)) (hz : ∀ w,(zeroValue e).run Tryz.prog w = .ok z w) (h : MapI w b L) (hm : a.eval m = .map (some b)) (hx : a.eval x = .int .i64 d) (hd : I64 d) (hno : ∀ p,p ∈ L→p.1≠d) (hK : wpList Tryz.prog ops Q rest (a.put o.dst (.tuple #[z,.bool false])) w) : wpList Tryz.prog ops Q (o :: rest) a w:=by
 refine wpList_plain hg fun K' hK'=>?_;have hrun:=run_look_no ht (hz w) h hd hno;unfold Oper.wp;simp [execOp,hop,hm,hx,hrun,Result.andThen];exact hK' _ _ hK
theorem wpl_look_yes (hg : o.guard=none) (m x : Operand) (t : TypeId) (hop : o.op = .lookup t m x true) (e : TypeId) (v : Value) (ht : Tryz.prog.underlying t=some (.map 3 e)) (h : MapI w b L) (hm : a.eval m = .map (some b)) (hx : a.eval x = .int .i64 d) (hd : I64 d) (hv : (d,v) ∈ L) (hu : ∀ p,p ∈ L→p.1=d→p.2=v) (hK : wpList Tryz.prog ops Q rest (a.put o.dst (.tuple #[v,.bool true])) w) : wpList Tryz.prog ops Q (o :: rest) a w:=by
 refine wpList_plain hg fun K' hK'=>?_;have hrun:=run_look_yes ht h hd hv hu;unfold Oper.wp;simp [execOp,hop,hm,hx,hrun,Result.andThen];exact hK' _ _ hK
theorem wpl_store_new (hg : o.guard=none) (m x y : Operand) (t : TypeId) (hop : o.op = .mapUpdate t m x y) (e : TypeId) (v : Value) (ht : Tryz.prog.underlying t=some (.map 3 e)) (h : MapI w b L) (hm : a.eval m = .map (some b)) (hx : a.eval x = .int .i64 d) (hv : a.eval y=v) (hd : I64 d) (hno : ∀ p,p ∈ L→p.1≠d) (hK : ∀ w',MapI w' b (L ++ [(d,v)])→w.grownBy w' (some b)→wpList Tryz.prog ops Q rest (a.put o.dst undef) w') : wpList Tryz.prog ops Q (o :: rest) a w:=by
 refine wpList_plain hg fun K' hK'=>?_;obtain ⟨w',hrun,r1,r2⟩:=run_store_new (v:=v) ht h hd hno;unfold Oper.wp;simp [execOp,hop,hm,hx,hv,hrun,Result.andThen];exact hK' _ _ (hK w' r1 r2)
end
theorem mapI_setr {w : World} {b : Nat} {L : List (Int × Value)} {p : Addr} {u : Value} (hp : b≠p.block) (h : MapI w b L) : MapI (w.setCell p u) b L:=h.set_ hp u
theorem mapI_allocr {w : World} {b : Nat} {L : List (Int × Value)} {o : Obj} (h : MapI w b L) : MapI (w.alloc o) b L:=h.alloc o
end
end Go.Proofs.YtpbdjpfbhicmdaaGreatDoor
