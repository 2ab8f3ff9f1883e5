/- Walk: units.known. -/
import Derived.Test.YtmomlipmpgcheaaGreatDoorWbxaj
import Derived.Test.YtmomlipmpgcheaaGreatDoorWbxau
import Derived.DeepKeys4
import Derived.Maps.OwnOps
set_option linter.unusedSimpArgs false
set_option linter.unusedVariables false
set_option maxRecDepth 100000
set_option maxHeartbeats 6400000
namespace Go.Proofs.YtmomlipmpgcheaaGreatDoor
open Go.RowKit
structure FT where
  nm : ByteArray
  v : Int
def sameB (a b : ByteArray) : Bool:=a.toList == b.toList
def wholeF (n : Int) : FrR:=⟨n,1,0⟩
def truF (b : Bool) : FrR:=wholeF (if b then 1 else 0)
def factF (s : ByteArray) : List FT→FrR
  | []=>FrR.bad 14
  | f :: r=>if sameB f.nm s=true then wholeF f.v else factF s r
def isF (x : FrR) : Bool:=!decide (x.p=0)
def appF (op : Int) (a b : FrR) : FrR :=
  if op=4 then addF a.p a.q b.p b.q
  else if op=5 then subF a.p a.q b.p b.q
  else if op=6 then mulF a.p a.q b.p b.q
  else if op=7 then divF a.p a.q b.p b.q
  else if op=10 then truF (decide (cmpI a.p a.q b.p b.q<0))
  else if op=11 then truF (decide (cmpI a.p a.q b.p b.q=0))
  else if decide (cmpI a.p a.q b.p b.q > 0)=decide (op=8) then b else a
def twoF (op : Int) (a b : FrR) : FrR:=if a.e≠0 then FrR.bad a.e else if b.e≠0 then FrR.bad b.e else appF op a b
def notF (a : FrR) : FrR:=if a.e≠0 then FrR.bad a.e else truF (!isF a)
def andF (a b : FrR) : FrR:=if a.e≠0 then FrR.bad a.e else if isF a=false then truF false else if b.e≠0 then FrR.bad b.e else truF (isF b)
def orF (a b : FrR) : FrR:=if a.e≠0 then FrR.bad a.e else if isF a=true then truF true else if b.e≠0 then FrR.bad b.e else truF (isF b)
def iteF (a b c : FrR) : FrR:=if a.e≠0 then FrR.bad a.e else if isF a=true then b else c
def opF (o : Int) : List FrR→FrR
  | [a]=>notF a
  | [a,b]=>if o=13 then andF a b else if o=14 then orF a b else twoF o a b
  | [a,b,c]=>iteF a b c
  | _=>FrR.bad 1
def evE (lk : ByteArray→FrR) (T M : List FT) : Nat→PT→FrR
  | 0,_=>FrR.bad 1
  | k+1,⟨o,n,_,s,_,_,l⟩ =>
    if o=0 then wholeF n
    else if o=1 then lk s
    else if o=2 then factF s T
    else if o=3 then factF s M
    else opF o (l.map (evE lk T M k))
def lkF (s : ByteArray) : List LT→List FrR→FrR
  | x :: L,v :: V=>if sameB x.nm s=true then v else lkF s L V
  | _,_=>FrR.bad 14
def lvN (T M : List FT) (L : List LT) : Nat→List FrR
  | 0=>[]
  | k+1=>match L[k]? with
    | some x=>lvN T M L k ++ [evE (fun s=>lkF s (L.take k) (lvN T M L k)) T M 12 x.b]
    | none=>lvN T M L k
theorem lvN_len (T M : List FT) (L : List LT) : ∀ k,k≤L.length→(lvN T M L k).length=k
 | 0,_=>rfl
 | k+1,h=>by
  unfold lvN;rw [List.getElem?_eq_getElem Zo];simp [lvN_len T M L k Zo]
theorem lvN_succ (T M : List FT) {L : List LT} {k : Nat} {x : LT} (h : L[k]? = some x) : lvN T M L (k+1)=lvN T M L k ++ [evE (fun s=>lkF s (L.take k) (lvN T M L k)) T M 12 x.b]:=by
 (conv=>lhs; unfold lvN);rw [h]
theorem lvN_at (T M : List FT) {L : List LT} {k : Nat} {x : LT} (hx : L[k]? = some x) : ∀ n,k<n→n≤L.length→(lvN T M L n)[k]? = some (evE (fun s=>lkF s (L.take k) (lvN T M L k)) T M 12 x.b)
 | 0,h,_=>absurd h Zo
 | n+1,h,hn=>by
  have hy : L[n]? = some L[n]:=List.getElem?_eq_getElem Zo;rw [lvN_succ T M hy];by_cases hk : k=n
  ·subst hk;rw [hy] at hx;injection hx with hx;rw [List.getElem?_append_right (by rw [lvN_len T M L k Zo]; exact Nat.le_refl _),lvN_len T M L k Zo,Nat.sub_self,hx];rfl
  ·rw [List.getElem?_append_left (by rw [lvN_len T M L n Zo]; omega)];exact lvN_at T M hx n Zo Zo
def evN (T M : List FT) (L : List LT) (n : Nat) (k : Nat) (e : PT) : FrR:=evE (fun s=>lkF s (L.take n) (lvN T M L n)) T M k e
theorem lkF_none {s : ByteArray} : ∀ {L : List LT} {V : List FrR},(∀ x ∈ L,sameB x.nm s=false)→lkF s L V=FrR.bad 14
 | [],_,_=>by unfold lkF; rfl
 | x :: L,[],_=>by unfold lkF; rfl
 | x :: L,u :: U,h=>by
  unfold lkF;rw [if_neg (by rw [h x (List.mem_cons_self ..)]; simp)];exact lkF_none fun y hy=>h y (List.mem_cons_of_mem _ hy)
theorem lkF_at {s : ByteArray} : ∀ {L : List LT} {V : List FrR} {j : Nat} {x : LT} {u : FrR},L[j]? = some x→V[j]? = some u→sameB x.nm s=true→(∀ y ∈ L.take j,sameB y.nm s=false)→lkF s L V=u
 | [],_,j,_,_,h,_,_,_=>by simp at h
 | x :: L,[],j,_,_,_,h,_,_=>by simp at h
 | x :: L,u :: U,0,y,v,h1,h2,h3,_=>by
  simp only [List.getElem?_cons_zero,Option.some.injEq] at h1 h2;subst h1 h2;unfold lkF;rw [if_pos h3]
 | x :: L,u :: U,j+1,y,v,h1,h2,h3,h4=>by
  unfold lkF;rw [if_neg (by rw [h4 x Zs]; simp)];refine lkF_at (j:=j) (by simpa using h1) (by simpa using h2) h3 fun z hz=>h4 z ?_;rw [List.take_succ_cons];exact List.mem_cons_of_mem _ hz
theorem factF_none {s : ByteArray} : ∀ {l : List FT},(∀ x ∈ l,sameB x.nm s=false)→factF s l=FrR.bad 14
 | [],_=>rfl
 | x :: l,h=>by
  unfold factF;rw [if_neg (by rw [h x (List.mem_cons_self ..)]; simp)];exact factF_none fun y hy=>h y (List.mem_cons_of_mem _ hy)
theorem factF_at {s : ByteArray} : ∀ {l : List FT} {j : Nat} {x : FT},l[j]? = some x→sameB x.nm s=true→(∀ y ∈ l.take j,sameB y.nm s=false)→factF s l=wholeF x.v
 | [],j,_,h,_,_=>by simp at h
 | x :: l,0,y,h1,h3,_=>by
  simp only [List.getElem?_cons_zero,Option.some.injEq] at h1;subst h1;unfold factF;rw [if_pos h3]
 | x :: l,j+1,y,h1,h3,h4=>by
  unfold factF;rw [if_neg (by rw [h4 x Zs]; simp)];refine factF_at (j:=j) (by simpa using h1) h3 fun z hz=>h4 z ?_;rw [List.take_succ_cons];exact List.mem_cons_of_mem _ hz
theorem lk_let (T M : List FT) {L : List LT} {n k : Nat} {x : LT} {s : ByteArray} (hn : n≤L.length) (hx : (L.take n)[k]? = some x) (hs : sameB x.nm s=true) (hb : ∀ y ∈ (L.take n).take k,sameB y.nm s=false) : lkF s (L.take n) (lvN T M L n)=evN T M L k 12 x.b:=by
 have hk : k<n:=by
  have:=(List.getElem?_eq_some_iff.1 hx).1;rw [List.length_take] at this; omega
 (have hx2 : L[k]? = some x:=by rw [List.getElem?_take,if_pos hk] at hx; exact hx);exact lkF_at hx (lvN_at T M hx2 n hk hn) hs hb
def factsB (l : List FT) : Bool:=decide ((l.length : Int)≤40) && l.all (fun f=>nameB f.nm && (decide (-1000000000000000≤f.v) && decide (f.v≤1000000000000000)))
def evalF (L : List LT) (e : PT) (T M : List FT) : FrR :=
  if rexp e=true∧(L.length : Int)≤20∧L.all (fun x=>rexp x.b)=true∧factsB T=true∧factsB M=true then evN T M L L.length 12 e else FrR.bad 1
section
open Go.Maps (Keyed)
theorem keyLaw : Keyed Tryz.prog 3:=Maps.int_keyed Tryz.underlying3
theorem key_at {d : Int} (hd : I64 d) : ∃ l,keyOf Tryz.prog 3 (.int .i64 d)=some l :=
 ⟨_,Maps.keyOf_int_mk Tryz.underlying3 (by unfold I64 at hd; exact WalkArith.wf_i64 Zo)⟩
def MapI (w : World) (b : Nat) (L : List (Int × Value)) : Prop :=
  ∃ es clock,w.heap[b]? = some (.map es clock)∧es.toList.map (fun e=>(e.key,e.val))=L.map (fun p=>(Value.int .i64 p.1,p.2))∧∀ p,p ∈ L→I64 p.1
theorem MapI.made (w : World) : MapI (w.alloc (.map #[] 0)) w.heap.size []:=⟨#[],0,(MapKept.heap_alloc w _).1,rfl,fun p hp=>by cases hp⟩
theorem MapI.keep {w w' : World} {b : Nat} {L : List (Int × Value)} (h : MapI w b L) (hk : w'.heap[b]? = w.heap[b]?) : MapI w' b L:=by
 obtain ⟨es,clock,h1,h2⟩:=h;exact ⟨es,clock,hk.trans h1,h2⟩
theorem MapI.lt {w : World} {b : Nat} {L : List (Int × Value)} (h : MapI w b L) : b<w.heap.size:=by
 obtain ⟨es,clock,hb,_⟩:=h;exact (Array.getElem?_eq_some_iff.1 hb).1
theorem MapI.below {w w' : World} {b B : Nat} {L : List (Int × Value)} (h : MapI w b L) (hb : Below B w w') (hB : b<B) : MapI w' b L:=h.keep (hb.block b hB)
theorem MapI.later {w w' : World} {b : Nat} {L : List (Int × Value)} (h : MapI w b L) (hb : Below w.heap.size w w') : MapI w' b L:=h.keep (hb.block b h.lt)
theorem MapI.grown {w w' : World} {b : Nat} {row : Option Nat} {L : List (Int × Value)} (h : MapI w b L) (hb : w.grownBy w' row) (hne : some b≠row) : MapI w' b L:=h.keep (hb.block b h.lt hne)
theorem MapI.set_ {w : World} {b : Nat} {L : List (Int × Value)} (h : MapI w b L) {p : Addr} (hp : b≠p.block) (u : Value) : MapI (w.setCell p u) b L:=h.keep (Below.heap_setCell w p u b hp)
theorem MapI.alloc {w : World} {b : Nat} {L : List (Int × Value)} (h : MapI w b L) (o : Obj) : MapI (w.alloc o) b L:=h.keep (Below.heap_alloc w o b h.lt)
section
variable {w : World} {b : Nat} {L : List (Int × Value)} {d : Int}
theorem MapI.keys (h : MapI w b L) : ∃ es clock,w.heap[b]? = some (.map es clock)∧(∀ e,e ∈ es.toList→∃ p,p ∈ L∧e.key = .int .i64 p.1∧e.val=p.2)∧(∀ p,p ∈ L→∃ e,e ∈ es.toList∧e.key = .int .i64 p.1∧e.val=p.2)∧(∀ e,e ∈ es.toList→∃ l,keyOf Tryz.prog 3 e.key=some l):=by
 obtain ⟨es,clock,hb,he,hi⟩:=h
 have h1 : ∀ e,e ∈ es.toList→∃ p,p ∈ L∧e.key = .int .i64 p.1∧e.val=p.2:=by
  intro e hm;have : (e.key,e.val) ∈ es.toList.map (fun e=>(e.key,e.val)):=List.mem_map_of_mem (f:=fun e : MapEntry=>(e.key,e.val)) hm;rw [he] at this;obtain ⟨p,hp,hq⟩:=List.mem_map.1 this;simp only [Prod.mk.injEq] at hq;exact ⟨p,hp,hq.1.symm,hq.2.symm⟩
 refine ⟨es,clock,hb,h1,fun p hp=>?_,fun e hm=>?_⟩
 ·have : (Value.int .i64 p.1,p.2) ∈ L.map (fun p=>(Value.int .i64 p.1,p.2)):=List.mem_map_of_mem (f:=fun p : Int × Value=>(Value.int .i64 p.1,p.2)) hp;rw [← he] at this;obtain ⟨e,hm,hq⟩:=List.mem_map.1 this;simp only [Prod.mk.injEq] at hq;exact ⟨e,hm,hq.1,hq.2⟩
 ·obtain ⟨p,hp,hk,_⟩:=h1 e hm;rw [hk];exact key_at (hi p hp)
theorem run_look_no {t e : TypeId} {z : Value} (ht : Tryz.prog.underlying t=some (.map 3 e)) (hz : (zeroValue e).run Tryz.prog w = .ok z w) (h : MapI w b L) (hd : I64 d) (hno : ∀ p,p ∈ L→p.1≠d) : (Instr.lookup t (.map (some b)) (.int .i64 d) true).run Tryz.prog w = .ok (.tuple #[z,.bool false]) w:=by
 obtain ⟨es,clock,hb,h1,h2,h3⟩:=h.keys;obtain ⟨l,hl⟩:=key_at hd;rcases keyLaw.find w hl es.toList h3 with ⟨hf,_⟩ | ⟨j,e0,hf,hj,hk⟩
 ·simp [Instr.lookup,run_underlying ht,MapKept.run_getObj_map hb,keyLaw.check w _ hl,hf,hz,Result.andThen]
 ·exfalso;obtain ⟨p,hp,hpk,_⟩:=h1 e0 (List.mem_of_getElem? hj);rw [hk] at hpk;(have e1 : d=p.1:=by injection hpk);exact hno p hp (e1.symm)
theorem run_look_yes {t e : TypeId} {v : Value} (ht : Tryz.prog.underlying t=some (.map 3 e)) (h : MapI w b L) (hd : I64 d) (hv : (d,v) ∈ L) (hu : ∀ p,p ∈ L→p.1=d→p.2=v) : (Instr.lookup t (.map (some b)) (.int .i64 d) true).run Tryz.prog w = .ok (.tuple #[v,.bool true]) w:=by
 obtain ⟨es,clock,hb,h1,h2,h3⟩:=h.keys;obtain ⟨l,hl⟩:=key_at hd;rcases keyLaw.find w hl es.toList h3 with ⟨hf,hno⟩ | ⟨j,e0,hf,hj,hk⟩
 ·exfalso;obtain ⟨e1,hm,hk,_⟩:=h2 _ hv;exact hno e1 hm hk
 ·obtain ⟨p,hp,hpk,hpv⟩:=h1 e0 (List.mem_of_getElem? hj);rw [hk] at hpk;(have e1 : d=p.1:=by injection hpk);have : e0.val=v:=hpv.trans (hu p hp (e1.symm));simp [Instr.lookup,run_underlying ht,MapKept.run_getObj_map hb,keyLaw.check w _ hl,hf,this,Result.andThen]
theorem run_store_new {t e : TypeId} {v : Value} (ht : Tryz.prog.underlying t=some (.map 3 e)) (h : MapI w b L) (hd : I64 d) (hno : ∀ p,p ∈ L→p.1≠d) : ∃ w',(Instr.mapUpdate t (.map (some b)) (.int .i64 d) v).run Tryz.prog w = .ok () w'∧MapI w' b (L ++ [(d,v)])∧w.grownBy w' (some b):=by
 obtain ⟨es,clock,hb,h1,h2,h3⟩:=h.keys;obtain ⟨l,hl⟩:=key_at hd;have hL:=h;obtain ⟨es',clock',hb',he',hi'⟩:=hL;rw [hb] at hb';injection hb' with hb';injection hb' with hb1 hb2;subst hb1;rcases keyLaw.find w hl es.toList h3 with ⟨hf,_⟩ | ⟨j,e0,hf,hj,hk⟩
 ·refine ⟨ChangeMaps.setBlock w b (.map (es.push ⟨.int .i64 d,v,clock⟩) (clock+1)), ?_,⟨_,_,ChangeMaps.heap_setBlock_same hb _, ?_, ?_⟩,⟨rfl,rfl,rfl,by simp [ChangeMaps.setBlock],fun i _ hi=>ChangeMaps.heap_setBlock_other hb _ (fun e=>hi (by rw [e]))⟩⟩
  ·simp [Instr.mapUpdate,run_underlying ht,MapKept.run_getObj_map hb,keyLaw.check w false hl,hf,MapKept.run_setObj_map _ hb,Result.andThen,ChangeMaps.setBlock]
  ·rw [Array.toList_push,List.map_append,he',List.map_append]; rfl
  ·intro p hp;rcases List.mem_append.1 hp with hp | hp
   ·exact hi' p hp
   ·rw [List.mem_singleton.1 hp]; exact hd
 ·exfalso;obtain ⟨p,hp,hpk,_⟩:=h1 e0 (List.mem_of_getElem? hj);rw [hk] at hpk;(have e1 : d=p.1:=by injection hpk);exact hno p hp (e1.symm)
variable {ops : Array Oper} {rest : List Oper} {o : Oper} {a : Act} {Q : Exit→Act→World→Prop}
theorem wpl_look_no (hg : o.guard=none) (m x : Operand) (t : TypeId) (hop : o.op = .lookup t m x true) (e : TypeId) (z : Value) (ht : Tryz.prog.underlying t=some (.map 3 e)) (hz : ∀ w,(zeroValue e).run Tryz.prog w = .ok z w) (h : MapI w b L) (hm : a.eval m = .map (some b)) (hx : a.eval x = .int .i64 d) (hd : I64 d) (hno : ∀ p,p ∈ L→p.1≠d) (hK : wpList Tryz.prog ops Q rest (a.put o.dst (.tuple #[z,.bool false])) w) : wpList Tryz.prog ops Q (o :: rest) a w:=by
 refine wpList_plain hg fun K' hK'=>?_;have hrun:=run_look_no ht (hz w) h hd hno;unfold Oper.wp;simp [execOp,hop,hm,hx,hrun,Result.andThen];exact hK' _ _ hK
theorem wpl_look_yes (hg : o.guard=none) (m x : Operand) (t : TypeId) (hop : o.op = .lookup t m x true) (e : TypeId) (v : Value) (ht : Tryz.prog.underlying t=some (.map 3 e)) (h : MapI w b L) (hm : a.eval m = .map (some b)) (hx : a.eval x = .int .i64 d) (hd : I64 d) (hv : (d,v) ∈ L) (hu : ∀ p,p ∈ L→p.1=d→p.2=v) (hK : wpList Tryz.prog ops Q rest (a.put o.dst (.tuple #[v,.bool true])) w) : wpList Tryz.prog ops Q (o :: rest) a w:=by
 refine wpList_plain hg fun K' hK'=>?_;have hrun:=run_look_yes ht h hd hv hu;unfold Oper.wp;simp [execOp,hop,hm,hx,hrun,Result.andThen];exact hK' _ _ hK
theorem wpl_store_new (hg : o.guard=none) (m x y : Operand) (t : TypeId) (hop : o.op = .mapUpdate t m x y) (e : TypeId) (v : Value) (ht : Tryz.prog.underlying t=some (.map 3 e)) (h : MapI w b L) (hm : a.eval m = .map (some b)) (hx : a.eval x = .int .i64 d) (hv : a.eval y=v) (hd : I64 d) (hno : ∀ p,p ∈ L→p.1≠d) (hK : ∀ w',MapI w' b (L ++ [(d,v)])→w.grownBy w' (some b)→wpList Tryz.prog ops Q rest (a.put o.dst undef) w') : wpList Tryz.prog ops Q (o :: rest) a w:=by
 refine wpList_plain hg fun K' hK'=>?_;obtain ⟨w',hrun,r1,r2⟩:=run_store_new (v:=v) ht h hd hno;unfold Oper.wp;simp [execOp,hop,hm,hx,hv,hrun,Result.andThen];exact hK' _ _ (hK w' r1 r2)
end
theorem mapI_setr {w : World} {b : Nat} {L : List (Int × Value)} {p : Addr} {u : Value} (hp : b≠p.block) (h : MapI w b L) : MapI (w.setCell p u) b L:=h.set_ hp u
theorem mapI_allocr {w : World} {b : Nat} {L : List (Int × Value)} {o : Obj} (h : MapI w b L) : MapI (w.alloc o) b L:=h.alloc o
end
def FT.enc (x : FT) : List Value:=[.string x.nm,.int .i64 x.v]
theorem FT.enc_k (x : FT) : x.enc.length=2:=rfl
theorem FT.enc_one (x : FT) : ∀ u ∈ x.enc,u.oneCell'=true:=by
 intro v hv;simp only [FT.enc,List.mem_cons,List.not_mem_nil,or_false] at hv;rcases hv with rfl | rfl <;> rfl
def FT.v_ : FT→Value | ⟨nm,n⟩=>.agg #[.string nm,.int .i64 n]
structure FactsAt (F : Nat→Prop) (w : World) (s : Sl FT) : Prop where
  rd : Rd F 2 FT.enc w s
  all : ∀ x,x ∈ s.l→x.nm.size≤9223372036854775807
theorem FactsAt.keep {F G : Nat→Prop} {w w' : World} {s : Sl FT} (h : FactsAt F w s) (hk : ∀ b,F b→w'.heap[b]? = w.heap[b]?) (hFG : ∀ b,F b→G b) : FactsAt G w' s:=⟨(h.rd.keep hk).mono hFG,h.all⟩
theorem FactsAt.later {w w' : World} {s : Sl FT} (h : FactsAt (· < w.heap.size) w s) (hb : Below w.heap.size w w') : FactsAt (· < w'.heap.size) w' s :=
 h.keep (fun b hb'=>hb.block b hb') (fun b hb'=>Nat.lt_of_lt_of_le hb' hb.size)
def okF (f : FT) : Bool:=nameB f.nm && (decide (-1000000000000000≤f.v) && decide (f.v≤1000000000000000))
theorem idxF_rt (l : Sl FT) (p : FT→Bool) (g : Nat) (w : World) (hr : Rd (· < w.heap.size) 2 FT.enc w l) (hp : ∀ W x,x ∈ l.l→Below w.heap.size w W→Calls Tryz.prog 123 (#[x.v_] ++ #[]) W fun e w'=>e = .returned (.bool (p x))∧Below W.heap.size W w') : Calls Tryz.prog 144 #[.slice l.A l.l.length l.c,.func (.func 123) #[] #[]] w fun e w'=>e = .returned (.int .i64 (idxP p 0 l.l))∧Below w.heap.size w w':=by
 obtain ⟨A,c,l⟩:=l;have hn:=hr.len;simp only at hn;have HR:=Zh hr;clear hr;simp only;simp only at hp;go_enter Tryz.func144,Tryz.ntmps144;go_wp2_with fail;go_loopw [5,8] (fun u i wr=>∃ (k : Nat),k≤l.length∧i = .int .i64 k∧Below w.heap.size w wr∧Hid (idxP p 0 l=idxP p k (l.drop k))) (fun _ i _=>l.length - (intOf i).toNat)
 case atStart=>exact ⟨0,by omega,rfl,qbl,Zh Zs⟩
 case round =>
  obtain ⟨k,hk,rfl,hbel,HG⟩:=hrel;have hhe : w.heap.size≤wr.heap.size:=hbel.size;by_cases hlt : k<l.length
  ·obtain ⟨b,o,rfl,hb,hcl⟩:=HR.out.at1 hlt;have hcl2:=hcl.keep (hbel.block b hb);have hd : l.drop k=l[k] :: l.drop (k+1):=List.drop_eq_getElem_cons hlt;have hgo:=HG.out;rw [hd] at hgo;have HGO:=Zh hgo;have hcall:=hp wr l[k] (List.getElem_mem hlt) hbel;clear hd hgo hcl HG hp;generalize l[k]=x at *;obtain ⟨bq,hb0⟩ : ∃ bq,p x=bq:=⟨_,rfl⟩;rw [hb0] at hcall;have HB0:=Zh hb0;clear hb0;obtain ⟨xn,xv⟩:=x;have gg:=hcl2.c2;obtain ⟨g0,g1⟩:=gg;simp only [FT.v_] at hcall;clear hcl2;rcases bq
   ·go_wp2_with fail;refine hcall.mono ?_;clear hcall;rintro e w1 ⟨rfl,hb1⟩;have hB1 : Below w.heap.size w w1:=qbv;clear hb1;go_wp2_with fail;go_roundw
    case rel=>exact ⟨k+1,by omega,by go_num,hB1,Zh (by rw [HGO.out,idxP,HB0.out]; rfl)⟩
    case measure=>simp [intOf]; omega
   ·go_wp2_with fail;refine hcall.mono ?_;clear hcall;rintro e w1 ⟨rfl,hb1⟩;have hB1 : Below w.heap.size w w1:=qbv;clear hb1;go_wp2_with fail;go_ret;exact ⟨ret_int (by rw [HGO.out,idxP,HB0.out]; rfl),hB1⟩
  ·have hkl : l.drop k=[]:=List.drop_eq_nil_of_le Zo;have hgo:=HG.out;rw [hkl] at hgo;have HGO:=Zh hgo;clear hkl hgo HG;go_wp2_with fail;go_ret;exact ⟨ret_int (by rw [HGO.out]; rfl),hbel⟩
theorem idxF_fa (l : Sl FT) (p : FT→Bool) (g : Nat) (w : World) (hr : Rd (· < w.heap.size) 2 FT.enc w l) (hp : ∀ W x,x ∈ l.l→Below w.heap.size w W→Calls Tryz.prog 148 (#[x.v_] ++ #[.pointer (some ⟨g,0,none⟩)]) W fun e w'=>e = .returned (.bool (p x))∧Below W.heap.size W w') : Calls Tryz.prog 144 #[.slice l.A l.l.length l.c,.func (.func 148) #[] #[.pointer (some ⟨g,0,none⟩)]] w fun e w'=>e = .returned (.int .i64 (idxP p 0 l.l))∧Below w.heap.size w w':=by
 obtain ⟨A,c,l⟩:=l;have hn:=hr.len;simp only at hn;have HR:=Zh hr;clear hr;simp only;simp only at hp;go_enter Tryz.func144,Tryz.ntmps144;go_wp2_with fail;go_loopw [5,8] (fun u i wr=>∃ (k : Nat),k≤l.length∧i = .int .i64 k∧Below w.heap.size w wr∧Hid (idxP p 0 l=idxP p k (l.drop k))) (fun _ i _=>l.length - (intOf i).toNat)
 case atStart=>exact ⟨0,by omega,rfl,qbl,Zh Zs⟩
 case round =>
  obtain ⟨k,hk,rfl,hbel,HG⟩:=hrel;have hhe : w.heap.size≤wr.heap.size:=hbel.size;by_cases hlt : k<l.length
  ·obtain ⟨b,o,rfl,hb,hcl⟩:=HR.out.at1 hlt;have hcl2:=hcl.keep (hbel.block b hb);have hd : l.drop k=l[k] :: l.drop (k+1):=List.drop_eq_getElem_cons hlt;have hgo:=HG.out;rw [hd] at hgo;have HGO:=Zh hgo;have hcall:=hp wr l[k] (List.getElem_mem hlt) hbel;clear hd hgo hcl HG hp;generalize l[k]=x at *;obtain ⟨bq,hb0⟩ : ∃ bq,p x=bq:=⟨_,rfl⟩;rw [hb0] at hcall;have HB0:=Zh hb0;clear hb0;obtain ⟨xn,xv⟩:=x;have gg:=hcl2.c2;obtain ⟨g0,g1⟩:=gg;simp only [FT.v_] at hcall;clear hcl2;rcases bq
   ·go_wp2_with fail;refine hcall.mono ?_;clear hcall;rintro e w1 ⟨rfl,hb1⟩;have hB1 : Below w.heap.size w w1:=qbv;clear hb1;go_wp2_with fail;go_roundw
    case rel=>exact ⟨k+1,by omega,by go_num,hB1,Zh (by rw [HGO.out,idxP,HB0.out]; rfl)⟩
    case measure=>simp [intOf]; omega
   ·go_wp2_with fail;refine hcall.mono ?_;clear hcall;rintro e w1 ⟨rfl,hb1⟩;have hB1 : Below w.heap.size w w1:=qbv;clear hb1;go_wp2_with fail;go_ret;exact ⟨ret_int (by rw [HGO.out,idxP,HB0.out]; rfl),hB1⟩
  ·have hkl : l.drop k=[]:=List.drop_eq_nil_of_le Zo;have hgo:=HG.out;rw [hkl] at hgo;have HGO:=Zh hgo;clear hkl hgo HG;go_wp2_with fail;go_ret;exact ⟨ret_int (by rw [HGO.out]; rfl),hbel⟩
theorem hasF_rt (l : Sl FT) (p : FT→Bool) (g : Nat) (w : World) (hr : Rd (· < w.heap.size) 2 FT.enc w l) (hp : ∀ W x,x ∈ l.l→Below w.heap.size w W→Calls Tryz.prog 123 (#[x.v_] ++ #[]) W fun e w'=>e = .returned (.bool (p x))∧Below W.heap.size W w') : Calls Tryz.prog 122 #[.slice l.A l.l.length l.c,.func (.func 123) #[] #[]] w fun e w'=>e = .returned (.bool (l.l.any p))∧Below w.heap.size w w':=by
 have hcon:=idxF_rt l p g w hr hp;clear hp hr;rcases idxP_ge p l.l 0 with ⟨h1,h2⟩ | ⟨j,x,h1,h2,h3,h4⟩
 ·rw [h1] at hcon;have HV:=Zh (show false=l.l.any p from (List.any_eq_false.2 (fun x hx=>by simpa using h2 x hx)).symm);clear h1 h2;go_enter Tryz.func122,Tryz.ntmps122;go_wp2_with fail;refine hcon.mono ?_;clear hcon;rintro e w1 ⟨rfl,hb1⟩;go_wp2_with fail;go_ret;exact ⟨ret_bool HV.out,hb1⟩
 ·rw [h1] at hcon;have HV:=Zh (show true=l.l.any p from (List.any_eq_true.2 ⟨x,List.mem_of_getElem? h2,h3⟩).symm);clear h1 h2 h3 h4;go_enter Tryz.func122,Tryz.ntmps122;go_wp2_with fail;refine hcon.mono ?_;clear hcon;rintro e w1 ⟨rfl,hb1⟩;go_wp2_with fail;go_ret;exact ⟨ret_bool HV.out,hb1⟩
theorem ev_fact1 (x : FT) (s : ByteArray) (g : Nat) (w : World) (hg : w.cell? ⟨g,0,none⟩=some (.string s)) (hgl : g<w.heap.size) : Calls Tryz.prog 148 #[x.v_,.pointer (some ⟨g,0,none⟩)] w fun r w'=>r = .returned (.bool (sameB x.nm s))∧Below w.heap.size w w':=by
 obtain ⟨xn,xv⟩:=x;(have hne : g≠w.heap.size:=by omega);simp only [FT.v_];go_enter Tryz.func148,Tryz.ntmps148;go_wp2_with fail;go_ret;exact ⟨rfl,qbl⟩
theorem ev_let1 (x : LT) (s : ByteArray) (g : Nat) (w : World) (hg : w.cell? ⟨g,0,none⟩=some (.string s)) (hgl : g<w.heap.size) : Calls Tryz.prog 147 #[x.v,.pointer (some ⟨g,0,none⟩)] w fun r w'=>r = .returned (.bool (sameB x.nm s))∧Below w.heap.size w w':=by
 obtain ⟨xn,xo,xm,xu,xs,xA,xc,xl⟩:=x;(have hne : g≠w.heap.size:=by omega);simp only [LT.v];go_enter Tryz.func147,Tryz.ntmps147;go_wp2_with fail;go_ret;exact ⟨rfl,qbl⟩
theorem okF_no {x : FT} (h : nameB x.nm=false) : (!okF x)=true:=by unfold okF; rw [h]; rfl
theorem okF_lt {x : FT} (h : x.v < -1000000000000000) : (!okF x)=true:=by unfold okF; rw [decide_eq_false (by omega : ¬ -1000000000000000≤x.v)]; simp
theorem okF_gt {x : FT} (h : 1000000000000000<x.v) : (!okF x)=true:=by unfold okF; rw [decide_eq_false (by omega : ¬ x.v≤1000000000000000)]; simp
theorem okF_yes {x : FT} (h : nameB x.nm=true) (h1 : -1000000000000000≤x.v) (h2 : x.v≤1000000000000000) : (!okF x)=false:=by unfold okF; rw [h,decide_eq_true h1,decide_eq_true h2]; rfl
theorem ev_right1 (x : FT) (w : World) (hx : x.nm.size≤9223372036854775807) : Calls Tryz.prog 123 #[x.v_] w fun r w'=>r = .returned (.bool (!okF x))∧Below w.heap.size w w':=by
 obtain ⟨V,hV⟩ : ∃ V,(!okF x)=V:=⟨_,rfl⟩;have H1:=Zh (okF_no (x:=x));have H2:=Zh (okF_lt (x:=x));have H3:=Zh (okF_gt (x:=x));have H4:=Zh (okF_yes (x:=x));rw [hV] at H1 H2 H3 H4 ⊢;clear hV;obtain ⟨xn,xv⟩:=x;simp only at hx H1 H2 H3 H4;have HN:=Zh (fun w2=>syn_name xn w2 hx);clear hx;simp only [FT.v_];go_enter Tryz.func123,Tryz.ntmps123;go_wp2_with fail;refine (HN.out _).mono ?_;rintro e w' ⟨rfl,hb⟩;have f0 : w'.cell? ⟨w.heap.size,1,none⟩=some (.int .i64 xv):=((Blk.new w _ _).later hb).cell 1;have hB : Below w.heap.size w w':=Below.trans qbl (hb.mono Zp);clear hb HN;rcases hn : nameB xn
 ·have HF:=Zh (H1.out hn);go_wp2_with fail;go_ret;exact ⟨ret_bool HF.out.symm,hB⟩
 ·by_cases h1 : xv < -1000000000000000
  ·have HF:=Zh (H2.out h1);go_wp2_with fail;go_ret;exact ⟨ret_bool HF.out.symm,hB⟩
  by_cases h2 : 1000000000000000<xv
  ·have HF:=Zh (H3.out h2);go_wp2_with fail;go_ret;exact ⟨ret_bool HF.out.symm,hB⟩
  have HF:=Zh (H4.out hn Zo Zo);go_wp2_with fail;go_ret;exact ⟨ret_bool (by rw [HF.out]; simp; omega),hB⟩
theorem factsB_is (l : List FT) : factsB l=(decide ((l.length : Int)≤40) && l.all okF):=rfl
theorem ev_right (l : Sl FT) (w : World) (hl : FactsAt (· < w.heap.size) w l) : Calls Tryz.prog 99 #[.slice l.A l.l.length l.c] w fun r w'=>r = .returned (.bool (factsB l.l))∧Below w.heap.size w w':=by
 have hn:=hl.rd.len;have HC:=Zh (hasF_rt l (fun x=>!okF x) 0 w hl.rd (fun W x hx hW=>ev_right1 x W (hl.all x hx)));have HA:=Zh (any_not okF l.l);have HI:=Zh (factsB_is l.l);clear hl;obtain ⟨V,hV⟩ : ∃ V,factsB l.l=V:=⟨_,rfl⟩;rw [hV] at HI ⊢;clear hV;obtain ⟨r,hr⟩ : ∃ r,l.l.any (fun x=>!okF x)=r:=⟨_,rfl⟩;rw [show (fun x=>!okF x)=(fun x=>!(okF) x) from rfl] at HC;rw [hr] at HA HC;clear hr;by_cases h40 : (l.l.length : Int)≤40
 ·have HF : Hid ((!r)=V):=Zh (by rw [HI.out,decide_eq_true h40,← HA.out]; simp);go_enter Tryz.func99,Tryz.ntmps99;go_wp2_with fail;refine HC.out.mono ?_;rintro e w' ⟨rfl,hb⟩;go_wp2_with fail;go_ret;exact ⟨ret_bool HF.out,hb⟩
 ·have HF : Hid (false=V):=Zh (by rw [HI.out,decide_eq_false h40]; rfl);go_enter Tryz.func99,Tryz.ntmps99;go_wp2_with fail;go_ret;exact ⟨ret_bool HF.out,Below.refl _ _⟩
end Go.Proofs.YtmomlipmpgcheaaGreatDoor
