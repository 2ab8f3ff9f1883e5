/- What eval's finder is in memory: its lets, its facts, and the map of the values that it has found. -/
import Derived.Test.YtmomlipmpgcheaaGreatDoorWbxay
set_option linter.unusedSimpArgs false
set_option linter.unusedVariables false
set_option maxRecDepth 100000
set_option maxHeartbeats 6400000
namespace Go.Proofs.YtmomlipmpgcheaaGreatDoor
open Go.RowKit
def Nm (X : Nat→Prop) (w : World) (b : Nat) : Prop:=b<w.heap.size∧¬ X b
theorem Nm.grow {X : Nat→Prop} {b : Nat} {w w' : World} (h : Nm X w b) (hs : w.heap.size≤w'.heap.size) : Nm X w' b:=⟨Nat.lt_of_lt_of_le h.1 hs,h.2⟩
theorem Nm.kept {X : Nat→Prop} {m b : Nat} {w w' : World} (h : Nm X w b) (hm : X m) (hg : w.grownBy w' (some m)) : w'.heap[b]? = w.heap[b]?:=hg.block b h.1 (fun e=>h.2 (by injection e with e; rw [e]; exact hm))
theorem nm_lt {X : Nat→Prop} {w : World} : ∀ b,Nm X w b→b<w.heap.size:=fun _ h=>h.1
theorem grown_refl (w : World) (r : Option Nat) : w.grownBy w r:=⟨rfl,rfl,rfl,Nat.le_refl _,fun _ _ _=>rfl⟩
theorem below_by {w w' : World} (h : Below w.heap.size w w') (r : Option Nat) : w.grownBy w' r:=⟨h.os,h.tape,h.output,h.size,fun j hj _=>h.block j hj⟩
theorem grown_trans {w w1 w2 : World} {m : Nat} (h1 : w.grownBy w1 (some m)) (h2 : w1.grownBy w2 (some m)) : w.grownBy w2 (some m) :=
 ⟨h2.os.trans h1.os,h2.tape.trans h1.tape,h2.output.trans h1.output,Nat.le_trans h1.size h2.size,fun j hj hr=>(h2.block j (Nat.lt_of_lt_of_le hj h1.size) hr).trans (h1.block j hj hr)⟩
theorem grown_below {w w' : World} {m B : Nat} (h : w.grownBy w' (some m)) (hB : B≤w.heap.size) (hm : B≤m) : Below B w w':=(Below.refl B w).grown h hB (fun k hk=>by injection hk with hk; omega)
theorem Blk.gm {w w' : World} {g m : Nat} {t : TypeId} {cs : Array Value} (h : Blk w g t cs) (hg : w.grownBy w' (some m)) (hne : g≠m) : Blk w' g t cs:=h.grown hg (fun e=>hne (by injection e))
def evOf (L : List LT) (T M : List FT) (k : Nat) : FrR:=match L[k]? with
  | some x=>evN T M L k 12 x.b
  | none=>FrR.bad 1
structure FnSt (g m : Nat) (L : Sl LT) (T M : Sl FT) (X : Nat→Prop) (E : List (Int × Value)) (w : World) : Prop where
  blk : Blk w g 137 #[.slice L.A L.l.length L.c,.map (some m),.slice T.A T.l.length T.c,.slice M.A M.l.length M.c]
  map : MapI w m E
  lets : LetsAt (Nm X w) w L
  trip : FactsAt (Nm X w) w T
  memb : FactsAt (Nm X w) w M
  memo : ∀ p,p ∈ E→∃ (k : Nat) (f : Frc),p.1=(k : Int)∧p.2=f.v∧(evOf L.l T.l M.l k).e=0∧RG (Nm X w) w f (evOf L.l T.l M.l k).p (evOf L.l T.l M.l k).q
  uniq : ∀ p q,p ∈ E→q ∈ E→p.1=q.1→p=q
  gm : g≠m
  xm : X m
  xlt : ∀ b,X b→b<w.heap.size
section
variable {g m : Nat} {L : Sl LT} {T M : Sl FT} {X : Nat→Prop} {E : List (Int × Value)} {w w' : World}
theorem FnSt.mw (h : FnSt g m L T M X E w) : m<w.heap.size:=h.xlt m h.xm
theorem LetsAt.mono {F G : Nat→Prop} (h : LetsAt F w L) (hFG : ∀ b,F b→G b) : LetsAt G w L:=h.keep (fun _ _=>rfl) hFG
theorem FactsAt.mono {F G : Nat→Prop} (h : FactsAt F w T) (hFG : ∀ b,F b→G b) : FactsAt G w T:=h.keep (fun _ _=>rfl) hFG
theorem PT.At.mono {F G : Nat→Prop} {e : PT} (h : PT.At F w e) (hFG : ∀ b,F b→G b) : PT.At G w e:=h.keep (fun _ _=>rfl) hFG
theorem LetsAt.grow (h : LetsAt (Nm X w) w L) (hm : X m) (hg : w.grownBy w' (some m)) : LetsAt (Nm X w') w' L:=h.keep (fun _ hb=>hb.kept hm hg) (fun _ hb=>hb.grow hg.size)
theorem FactsAt.grow (h : FactsAt (Nm X w) w T) (hm : X m) (hg : w.grownBy w' (some m)) : FactsAt (Nm X w') w' T:=h.keep (fun _ hb=>hb.kept hm hg) (fun _ hb=>hb.grow hg.size)
theorem RG.grow {f : Frc} {p q : Int} (h : RG (Nm X w) w f p q) (hm : X m) (hg : w.grownBy w' (some m)) : RG (Nm X w') w' f p q:=(h.keep (fun _ hb=>hb.kept hm hg)).mono fun _ hb=>hb.grow hg.size
theorem PT.At.grow {e : PT} (h : PT.At (Nm X w) w e) (hm : X m) (hg : w.grownBy w' (some m)) : PT.At (Nm X w') w' e:=h.keep (fun _ hb=>hb.kept hm hg) (fun _ hb=>hb.grow hg.size)
def Mor (X Y : Nat→Prop) (w w' : World) : Prop:=(∀ b,X b→Y b)∧∀ b,Y b→X b∨(w.heap.size≤b∧b<w'.heap.size)
theorem Mor.refl (X : Nat→Prop) (w w' : World) : Mor X X w w':=⟨fun _ h=>h,fun _ h=>.inl h⟩
theorem Mor.nm {Y : Nat→Prop} (h : Mor X Y w w') (hb : Below w.heap.size w w') {b : Nat} (hn : Nm X w b) : Nm Y w' b:=⟨Nat.lt_of_lt_of_le hn.1 hb.size,fun hy=>by
 rcases h.2 b hy with hx | hx
 ·exact hn.2 hx
 ·have:=hn.1; omega⟩
theorem PT.At.more {Y : Nat→Prop} {e : PT} (h : PT.At (Nm X w) w e) (hb : Below w.heap.size w w') (hY : Mor X Y w w') : PT.At (Nm Y w') w' e:=h.keep (fun b hb'=>hb.block b hb'.1) (fun _ hb'=>hY.nm hb hb')
theorem RG.more {Y : Nat→Prop} {f : Frc} {p q : Int} (h : RG (Nm X w) w f p q) (hb : Below w.heap.size w w') (hY : Mor X Y w w') : RG (Nm Y w') w' f p q:=(h.keep (fun b hb'=>hb.block b hb'.1)).mono (fun _ hb'=>hY.nm hb hb')
theorem FnSt.more {Y : Nat→Prop} (h : FnSt g m L T M X E w) (hb : Below w.heap.size w w') (hY : Mor X Y w w') : FnSt g m L T M Y E w' :=
 ⟨h.blk.later hb,h.map.later hb,h.lets.keep (fun b hb'=>hb.block b hb'.1) (fun _ hb'=>hY.nm hb hb'),h.trip.keep (fun b hb'=>hb.block b hb'.1) (fun _ hb'=>hY.nm hb hb'),h.memb.keep (fun b hb'=>hb.block b hb'.1) (fun _ hb'=>hY.nm hb hb'),fun p hp=>by
  obtain ⟨k,f,h1,h2,h3,h4⟩:=h.memo p hp
  exact ⟨k,f,h1,h2,h3,h4.more hb hY⟩,h.uniq,h.gm,hY.1 m h.xm,fun b hy=>by
  rcases hY.2 b hy with hx | hx
  ·exact Nat.lt_of_lt_of_le (h.xlt b hx) hb.size
  ·exact hx.2⟩
theorem FnSt.later (h : FnSt g m L T M X E w) (hb : Below w.heap.size w w') : FnSt g m L T M X E w':=h.more hb (Mor.refl _ _ _)
theorem Nm.less {Y : Nat→Prop} (hXY : ∀ b,X b→Y b) {b : Nat} (h : Nm Y w b) : Nm X w b:=⟨h.1,fun hx=>h.2 (hXY b hx)⟩
theorem FnSt.less {Y : Nat→Prop} (h : FnSt g m L T M Y E w) (hXY : ∀ b,X b→Y b) (hm : X m) : FnSt g m L T M X E w :=
 ⟨h.blk,h.map,h.lets.mono fun _ hb=>hb.less hXY,h.trip.mono fun _ hb=>hb.less hXY,h.memb.mono fun _ hb=>hb.less hXY,fun p hp=>by
  obtain ⟨k,f,h1,h2,h3,h4⟩:=h.memo p hp;exact ⟨k,f,h1,h2,h3,h4.mono fun _ hb=>hb.less hXY⟩,h.uniq,h.gm,hm,fun b hx=>h.xlt b (hXY b hx)⟩
theorem FnSt.set_ (h : FnSt g m L T M X E w) {a : Addr} (ha : X a.block) (hg : g≠a.block) (hm : m≠a.block) (u : Value) : FnSt g m L T M X E (w.setCell a u):=by
 have hk : ∀ b,Nm X w b→(w.setCell a u).heap[b]? = w.heap[b]?:=fun b hb=>Below.heap_setCell w a u b (fun e=>hb.2 (by rw [e]; exact ha));have hn : ∀ b,Nm X w b→Nm X (w.setCell a u) b:=fun b hb=>⟨by simpa using hb.1,hb.2⟩
 exact ⟨h.blk.far hg u,h.map.set_ hm u,h.lets.keep hk hn,h.trip.keep hk hn,h.memb.keep hk hn,fun p hp=>by
  obtain ⟨k,f,h1,h2,h3,h4⟩:=h.memo p hp;exact ⟨k,f,h1,h2,h3,(h4.keep hk).mono hn⟩,h.uniq,h.gm,h.xm,fun b hx=>by simpa using h.xlt b hx⟩
theorem FnSt.store (h : FnSt g m L T M X E w) {k : Nat} {f : Frc} (hg : w.grownBy w' (some m)) (hm : MapI w' m (E ++ [((k : Int),f.v)])) (hno : ∀ p,p ∈ E→p.1≠(k : Int)) (h0 : (evOf L.l T.l M.l k).e=0) (hf : RG (Nm X w) w f (evOf L.l T.l M.l k).p (evOf L.l T.l M.l k).q) : FnSt g m L T M X (E ++ [((k : Int),f.v)]) w' :=
 ⟨h.blk.gm hg h.gm,hm,h.lets.grow h.xm hg,h.trip.grow h.xm hg,h.memb.grow h.xm hg,fun p hp=>by
  rcases List.mem_append.1 hp with hp | hp
  ·obtain ⟨k,f,h1,h2,h3,h4⟩:=h.memo p hp;exact ⟨k,f,h1,h2,h3,h4.grow h.xm hg⟩
  ·rw [List.mem_singleton.1 hp]
   exact ⟨k,f,rfl,rfl,h0,hf.grow h.xm hg⟩,fun p q hp hq he=>by
  rcases List.mem_append.1 hp with hp | hp <;> rcases List.mem_append.1 hq with hq | hq
  ·exact h.uniq p q hp hq he
  ·rw [List.mem_singleton.1 hq] at he;exact absurd he (hno p hp)
  ·rw [List.mem_singleton.1 hp] at he;exact absurd he.symm (hno q hq)
  ·rw [List.mem_singleton.1 hp,List.mem_singleton.1 hq],h.gm,h.xm,fun b hx=>Nat.lt_of_lt_of_le (h.xlt b hx) hg.size⟩
def NewE (E E' : List (Int × Value)) (n : Nat) : Prop:=∀ p,p ∈ E'→p ∈ E∨p.1<(n : Int)
theorem NewE.refl (E : List (Int × Value)) (n : Nat) : NewE E E n:=fun _ h=>.inl h
theorem NewE.trans {E1 E2 E3 : List (Int × Value)} {n : Nat} (h1 : NewE E1 E2 n) (h2 : NewE E2 E3 n) : NewE E1 E3 n:=fun p hp=>by
 rcases h2 p hp with h | h
 ·exact h1 p h
 ·exact .inr h
def FnP (g m : Nat) (L : Sl LT) (T M : Sl FT) (X : Nat→Prop) (E : List (Int × Value)) (n : Nat) (w w' : World) (r : FrR) (e : Ending) : Prop :=
  (r.e=0∧(∃ f : Frc,e = .returned f.v∧RG (Nm X w') w' f r.p r.q)∨r.e≠0∧e=ErrV r.e)∧(∃ E',FnSt g m L T M X E' w'∧NewE E E' n)∧w.grownBy w' (some m)
def FnB (g m : Nat) (L : Sl LT) (T M : Sl FT) (X : Nat→Prop) (E : List (Int × Value)) (n : Nat) (w w' : World) (r : FrR) (e : Ending) : Prop :=
  (r.e=0∧e = .returned (.bool (isF r))∨r.e≠0∧e=ErrV r.e)∧(∃ E',FnSt g m L T M X E' w'∧NewE E E' n)∧w.grownBy w' (some m)
theorem FnP.cast {n : Nat} {r r' : FrR} {e : Ending} (h : r=r') (x : FnP g m L T M X E n w w' r' e) : FnP g m L T M X E n w w' r e:=by rw [h]; exact x
def ApP (X : Nat→Prop) (w w' : World) (r : FrR) (e : Ending) : Prop :=
  (r.e=0∧(∃ f : Frc,e = .returned f.v∧RG (Nm X w') w' f r.p r.q)∨r.e≠0∧e=ErrV r.e)∧Below w.heap.size w w'
theorem EvP.ap {r : FrR} {e : Ending} (h : EvP w w' r e) (hX : ∀ b,X b→b<w.heap.size) : ApP X w w' r e:=by
 obtain ⟨h1,hb⟩:=h;refine ⟨?_,hb⟩;rcases h1 with ⟨h0,f,he,hf⟩ | h1
 ·exact .inl ⟨h0,f,he,hf.mono fun b hb'=>⟨hb'.2,fun e=>by have:=hb'.1; have:=hX b e; omega⟩⟩
 ·exact .inr h1
theorem ApP.cast {r r' : FrR} {e : Ending} (h : r=r') (x : ApP X w w' r' e) : ApP X w w' r e:=by rw [h]; exact x
theorem RG.st4x {f : Frc} {p q : Int} {g : Nat} {F : Nat→Prop} {x y z v : Value} (h : RG F w f p q) (h1 : ∀ b,F b→b≠g) : RG F ((((w.setCell ⟨g,0,none⟩ x).setCell ⟨g,1,none⟩ y).setCell ⟨g,2,none⟩ z).setCell ⟨g,3,none⟩ v) f p q :=
 ⟨rd_st4' h.P h1,rd_st4' h.Q h1,h.dp,h.dq,h.ok⟩
theorem RG.stX {f : Frc} {p q : Int} {g : Nat} {Y : Nat→Prop} {x y z v : Value} (h : RG (Nm Y w) w f p q) (h1 : Y g) (hXY : ∀ b,X b→Y b) : RG (Nm X ((((w.setCell ⟨g,0,none⟩ x).setCell ⟨g,1,none⟩ y).setCell ⟨g,2,none⟩ z).setCell ⟨g,3,none⟩ v)) ((((w.setCell ⟨g,0,none⟩ x).setCell ⟨g,1,none⟩ y).setCell ⟨g,2,none⟩ z).setCell ⟨g,3,none⟩ v) f p q :=
 (h.st4x (fun b hb e=>hb.2 (by rw [e]; exact h1))).mono fun b hb=>⟨by simpa using hb.1,fun hx=>hb.2 (hXY b hx)⟩
theorem FnSt.stX {Y : Nat→Prop} {a : Nat} {x y z v : Value} (h : FnSt g m L T M Y E w) (h1 : Y a) (hg : g≠a) (hm : m≠a) (hXY : ∀ b,X b→Y b) (hX : X m) : FnSt g m L T M X E ((((w.setCell ⟨a,0,none⟩ x).setCell ⟨a,1,none⟩ y).setCell ⟨a,2,none⟩ z).setCell ⟨a,3,none⟩ v) :=
 ((((h.set_ h1 hg hm x).set_ h1 hg hm y).set_ h1 hg hm z).set_ h1 hg hm v).less hXY hX
theorem grown_st4 {w0 : World} {a : Nat} {x y z v : Value} (h : w0.grownBy w (some m)) (ha : w0.heap.size≤a) : w0.grownBy ((((w.setCell ⟨a,0,none⟩ x).setCell ⟨a,1,none⟩ y).setCell ⟨a,2,none⟩ z).setCell ⟨a,3,none⟩ v) (some m) :=
 ⟨h.os,h.tape,h.output,by simpa using h.size,fun j hj hr=>by
  (have hne : j≠a:=by omega);rw [Below.heap_setCell _ _ _ j hne,Below.heap_setCell _ _ _ j hne,Below.heap_setCell _ _ _ j hne,Below.heap_setCell _ _ _ j hne];exact h.block j hj hr⟩
end
section
variable {X : Nat→Prop}
theorem appF_4 (a b : FrR) : appF 4 a b=addF a.p a.q b.p b.q:=by unfold appF; rw [if_pos rfl]
theorem appF_5 (a b : FrR) : appF 5 a b=subF a.p a.q b.p b.q:=by unfold appF; rw [if_neg (by decide),if_pos rfl]
theorem appF_6 (a b : FrR) : appF 6 a b=mulF a.p a.q b.p b.q:=by unfold appF; rw [if_neg (by decide),if_neg (by decide),if_pos rfl]
theorem appF_7 (a b : FrR) : appF 7 a b=divF a.p a.q b.p b.q:=by unfold appF; rw [if_neg (by decide),if_neg (by decide),if_neg (by decide),if_pos rfl]
theorem appF_10 (a b : FrR) : appF 10 a b=truF (decide (cmpI a.p a.q b.p b.q<0)):=by unfold appF; rw [if_neg (by decide),if_neg (by decide),if_neg (by decide),if_neg (by decide),if_pos rfl]
theorem appF_11 (a b : FrR) : appF 11 a b=truF (decide (cmpI a.p a.q b.p b.q=0)):=by unfold appF; rw [if_neg (by decide),if_neg (by decide),if_neg (by decide),if_neg (by decide),if_neg (by decide),if_pos rfl]
theorem RG.newX {w : World} {f : Frc} {p q : Int} {n g : Nat} {x y z v : Value} (h : RG (Nw n w) w f p q) (hg : g<n) (hX : ∀ b,X b→b<n) : RG (Nm X ((((w.setCell ⟨g,0,none⟩ x).setCell ⟨g,1,none⟩ y).setCell ⟨g,2,none⟩ z).setCell ⟨g,3,none⟩ v)) ((((w.setCell ⟨g,0,none⟩ x).setCell ⟨g,1,none⟩ y).setCell ⟨g,2,none⟩ z).setCell ⟨g,3,none⟩ v) f p q :=
 (h.st4x (fun b hb=>by have:=hb.1; omega)).mono fun b hb=>⟨by simpa using hb.2,fun hx=>by have:=hX b hx; have:=hb.1; omega⟩
theorem RG.oldX {w0 w : World} {f : Frc} {p q : Int} {g : Nat} {x y z v : Value} (h : RG (Nm X w0) w f p q) (hg : w0.heap.size≤g) (hs : w0.heap.size≤w.heap.size) : RG (Nm X ((((w.setCell ⟨g,0,none⟩ x).setCell ⟨g,1,none⟩ y).setCell ⟨g,2,none⟩ z).setCell ⟨g,3,none⟩ v)) ((((w.setCell ⟨g,0,none⟩ x).setCell ⟨g,1,none⟩ y).setCell ⟨g,2,none⟩ z).setCell ⟨g,3,none⟩ v) f p q :=
 (h.st4x (fun b hb=>by have:=hb.1; omega)).mono fun b hb=>⟨by have:=hb.1; simp; omega,hb.2⟩
theorem appF_m {op : Int} (a b : FrR) (h4 : ¬ op=4) (h5 : ¬ op=5) (h6 : ¬ op=6) (h7 : ¬ op=7) (h10 : ¬ op=10) (h11 : ¬ op=11) : appF op a b=if decide (cmpI a.p a.q b.p b.q > 0)=decide (op=8) then b else a:=by
 unfold appF;rw [if_neg h4,if_neg h5,if_neg h6,if_neg h7,if_neg h10,if_neg h11]
theorem truF_is (b : Bool) : truF b=⟨(truF b).p,(truF b).q,0⟩:=rfl
theorem ev_apply (X : Nat→Prop) (op : Int) (f g : Frc) (p q r s : Int) (w : World) (hX : ∀ b,X b→b<w.heap.size) (hf : RG (Nm X w) w f p q) (hg : RG (Nm X w) w g r s) : Calls Tryz.prog 129 #[.int .i64 op,f.v,g.v] w fun e w'=>ApP X w w' (appF op ⟨p,q,0⟩ ⟨r,s,0⟩) e:=by
 have HF:=Zh hf;have HG:=Zh hg;clear hf hg;obtain ⟨V,hV⟩ : ∃ V,appF op ⟨p,q,0⟩ ⟨r,s,0⟩=V:=⟨_,rfl⟩;rw [hV];have HV:=Zh hV;clear hV;simp only [Frc.v];go_enter Tryz.func129,Tryz.ntmps129;go_wp2_with fail;have HB : Hid (Below w.heap.size w (((w.alloc (.cells (Zc f) 94)).alloc (.cells (Zc g) 94)).alloc (.cells Zf 94))):=Zh qbl;have HA : Hid (Blk (((w.alloc (.cells (Zc f) 94)).alloc (.cells (Zc g) 94)).alloc (.cells Zf 94)) w.heap.size 94 (Zc f)):=Zh (((Blk.new _ _ _).alloc _).alloc _);have HC : Hid (Blk (((w.alloc (.cells (Zc f) 94)).alloc (.cells (Zc g) 94)).alloc (.cells Zf 94)) (w.heap.size+1) 94 (Zc g)):=Zh ((Blk.new' Zs).alloc _);have HD : Hid (Blk (((w.alloc (.cells (Zc f) 94)).alloc (.cells (Zc g) 94)).alloc (.cells Zf 94)) (w.heap.size+1+1) 94 Zf):=Zh (Blk.new' Zs);generalize ((w.alloc (.cells (Zc f) 94)).alloc (.cells (Zc g) 94)).alloc (.cells Zf 94)=w1 at *;have HF1:=Zh (HF.out.more HB.out (Mor.refl _ _ _));have HG1:=Zh (HG.out.more HB.out (Mor.refl _ _ _));refine (frac_cmp f g p q r s _ (HF1.out.rf nm_lt) (HG1.out.rf nm_lt)).mono ?_;rintro e w2 ⟨rfl,hb2⟩;have HB2:=Zt HB hb2;have HFO : Hid (RG (Nm X w) w2 f p q):=Zh (HF.out.keep (fun b hb=>HB2.out.block b hb.1));have HGO : Hid (RG (Nm X w) w2 g r s):=Zh (HG.out.keep (fun b hb=>HB2.out.block b hb.1));have HF2:=Zh (HF1.out.more hb2 (Mor.refl _ _ _));have HG2:=Zh (HG1.out.more hb2 (Mor.refl _ _ _));have HAA:=Zh (HA.out.later hb2);have HCC:=Zh (HC.out.later hb2);have HDD:=Zh (HD.out.later hb2);clear hb2 HF1 HG1 HA HC HD HF HG;obtain ⟨a0,a1,a2,a3,af,az⟩:=HAA.out.b4;obtain ⟨b0,b1,b2,b3,bf,bz⟩:=HCC.out.b4;obtain ⟨r0,r1,r2,r3,rf,rz⟩:=HDD.out.b4;obtain ⟨C,hC⟩ : ∃ C,cmpI p q r s=C:=⟨_,rfl⟩;rw [hC];have HCM:=Zh hC;clear hC;by_cases h4 : op=4
 ·subst h4;go_wp2_with fail;refine (frac_Add f g p q r s _ (HF2.out.rf nm_lt) (HG2.out.rf nm_lt)).mono ?_;rintro e w3 hp;have hok:=addF_OK HF2.out.ok HG2.out.ok;have hv:=HV.out;rw [appF_4] at hv;simp only at hv;rw [hv] at hp hok;by_cases he : V.e=0
  ·obtain ⟨x,rfl,hx,hb3⟩:=hp.yes he (hok.yes he);have HX:=Zh hx;have HDW:=Zh (HDD.out.later hb3);have HB3:=Zt HB2 hb3;have hs23 : w2.heap.size≤w3.heap.size:=hb3.size;have HE:=Zh he;clear hx hb3 hp hok hv he;simp only [Frc.v];go_wp2_with fail;refine (ev_must_ok x _).mono ?_;rintro e w4 ⟨rfl,hb4⟩;have HX4:=Zh (HX.out.nw Zl hb4);have HB4:=Zt HB3 hb4;clear r0 r1 r2 r3 rf rz;obtain ⟨r0,r1,r2,r3,rf,rz⟩:=(HDW.out.later hb4).b4;have hsz : w2.heap.size≤w4.heap.size:=Nat.le_trans hs23 hb4.size;clear hb4;simp only [Frc.v];go_wp2_with fail;have hm2:=HB2.out.size;refine bodyPost_ret (v:=.agg #[.int .i64 x.p.s,.slice x.p.l.A x.p.l.l.length x.p.l.c,.int .i64 x.q.s,.slice x.q.l.A x.q.l.l.length x.q.l.c]) ?_ rfl ⟨.inl ⟨HE.out,x,rfl,HX4.out.newX HDD.out.lt (fun b hb=>Nat.lt_of_lt_of_le (hX b hb) hm2)⟩,below_st4 HB4.out⟩;simp [results,Tryz.results129,go_sem,r0,r1,r2,r3]
  ·obtain ⟨x,rfl,hb3⟩:=hp.no;have HDW:=Zh (HDD.out.later hb3);have HB3:=Zt HB2 hb3;have HE:=Zh he;clear hb3 hp hok hv he;simp only [Frc.v];go_wp2_with fail;refine (ev_must_no x V.e _ HE.out).mono ?_;rintro e w4 ⟨he4,hb4⟩;unfold ErrV at he4;subst he4;have HB4:=Zt HB3 hb4;clear hb4;go_wp2_with fail;exact ⟨rfl,.inr ⟨HE.out,rfl⟩,HB4.out⟩
 by_cases h5 : op=5
 ·subst h5;go_wp2_with fail;refine (frac_Sub f g p q r s _ (HF2.out.rf nm_lt) (HG2.out.rf nm_lt)).mono ?_;rintro e w3 hp;have hok:=subF_OK HF2.out.ok HG2.out.ok;have hv:=HV.out;rw [appF_5] at hv;simp only at hv;rw [hv] at hp hok;by_cases he : V.e=0
  ·obtain ⟨x,rfl,hx,hb3⟩:=hp.yes he (hok.yes he);have HX:=Zh hx;have HDW:=Zh (HDD.out.later hb3);have HB3:=Zt HB2 hb3;have hs23 : w2.heap.size≤w3.heap.size:=hb3.size;have HE:=Zh he;clear hx hb3 hp hok hv he;simp only [Frc.v];go_wp2_with fail;refine (ev_must_ok x _).mono ?_;rintro e w4 ⟨rfl,hb4⟩;have HX4:=Zh (HX.out.nw Zl hb4);have HB4:=Zt HB3 hb4;clear r0 r1 r2 r3 rf rz;obtain ⟨r0,r1,r2,r3,rf,rz⟩:=(HDW.out.later hb4).b4;have hsz : w2.heap.size≤w4.heap.size:=Nat.le_trans hs23 hb4.size;clear hb4;simp only [Frc.v];go_wp2_with fail;have hm2:=HB2.out.size;refine bodyPost_ret (v:=.agg #[.int .i64 x.p.s,.slice x.p.l.A x.p.l.l.length x.p.l.c,.int .i64 x.q.s,.slice x.q.l.A x.q.l.l.length x.q.l.c]) ?_ rfl ⟨.inl ⟨HE.out,x,rfl,HX4.out.newX HDD.out.lt (fun b hb=>Nat.lt_of_lt_of_le (hX b hb) hm2)⟩,below_st4 HB4.out⟩;simp [results,Tryz.results129,go_sem,r0,r1,r2,r3]
  ·obtain ⟨x,rfl,hb3⟩:=hp.no;have HDW:=Zh (HDD.out.later hb3);have HB3:=Zt HB2 hb3;have HE:=Zh he;clear hb3 hp hok hv he;simp only [Frc.v];go_wp2_with fail;refine (ev_must_no x V.e _ HE.out).mono ?_;rintro e w4 ⟨he4,hb4⟩;unfold ErrV at he4;subst he4;have HB4:=Zt HB3 hb4;clear hb4;go_wp2_with fail;exact ⟨rfl,.inr ⟨HE.out,rfl⟩,HB4.out⟩
 by_cases h6 : op=6
 ·subst h6;go_wp2_with fail;refine (frac_Mul f g p q r s _ (HF2.out.rf nm_lt) (HG2.out.rf nm_lt)).mono ?_;rintro e w3 hp;have hok:=mulF_OK HF2.out.ok HG2.out.ok;have hv:=HV.out;rw [appF_6] at hv;simp only at hv;rw [hv] at hp hok;by_cases he : V.e=0
  ·obtain ⟨x,rfl,hx,hb3⟩:=hp.yes he (hok.yes he);have HX:=Zh hx;have HDW:=Zh (HDD.out.later hb3);have HB3:=Zt HB2 hb3;have hs23 : w2.heap.size≤w3.heap.size:=hb3.size;have HE:=Zh he;clear hx hb3 hp hok hv he;simp only [Frc.v];go_wp2_with fail;refine (ev_must_ok x _).mono ?_;rintro e w4 ⟨rfl,hb4⟩;have HX4:=Zh (HX.out.nw Zl hb4);have HB4:=Zt HB3 hb4;clear r0 r1 r2 r3 rf rz;obtain ⟨r0,r1,r2,r3,rf,rz⟩:=(HDW.out.later hb4).b4;have hsz : w2.heap.size≤w4.heap.size:=Nat.le_trans hs23 hb4.size;clear hb4;simp only [Frc.v];go_wp2_with fail;have hm2:=HB2.out.size;refine bodyPost_ret (v:=.agg #[.int .i64 x.p.s,.slice x.p.l.A x.p.l.l.length x.p.l.c,.int .i64 x.q.s,.slice x.q.l.A x.q.l.l.length x.q.l.c]) ?_ rfl ⟨.inl ⟨HE.out,x,rfl,HX4.out.newX HDD.out.lt (fun b hb=>Nat.lt_of_lt_of_le (hX b hb) hm2)⟩,below_st4 HB4.out⟩;simp [results,Tryz.results129,go_sem,r0,r1,r2,r3]
  ·obtain ⟨x,rfl,hb3⟩:=hp.no;have HDW:=Zh (HDD.out.later hb3);have HB3:=Zt HB2 hb3;have HE:=Zh he;clear hb3 hp hok hv he;simp only [Frc.v];go_wp2_with fail;refine (ev_must_no x V.e _ HE.out).mono ?_;rintro e w4 ⟨he4,hb4⟩;unfold ErrV at he4;subst he4;have HB4:=Zt HB3 hb4;clear hb4;go_wp2_with fail;exact ⟨rfl,.inr ⟨HE.out,rfl⟩,HB4.out⟩
 by_cases h7 : op=7
 ·subst h7;go_wp2_with fail;refine (frac_Div f g p q r s _ (HF2.out.rf nm_lt) (HG2.out.rf nm_lt)).mono ?_;rintro e w3 hp;have hok:=divF_OK HF2.out.ok HG2.out.ok;have hv:=HV.out;rw [appF_7] at hv;simp only at hv;rw [hv] at hp hok;by_cases he : V.e=0
  ·obtain ⟨x,rfl,hx,hb3⟩:=hp.yes he (hok.yes he);have HX:=Zh hx;have HDW:=Zh (HDD.out.later hb3);have HB3:=Zt HB2 hb3;have hs23 : w2.heap.size≤w3.heap.size:=hb3.size;have HE:=Zh he;clear hx hb3 hp hok hv he;simp only [Frc.v];go_wp2_with fail;refine (ev_must_ok x _).mono ?_;rintro e w4 ⟨rfl,hb4⟩;have HX4:=Zh (HX.out.nw Zl hb4);have HB4:=Zt HB3 hb4;clear r0 r1 r2 r3 rf rz;obtain ⟨r0,r1,r2,r3,rf,rz⟩:=(HDW.out.later hb4).b4;have hsz : w2.heap.size≤w4.heap.size:=Nat.le_trans hs23 hb4.size;clear hb4;simp only [Frc.v];go_wp2_with fail;have hm2:=HB2.out.size;refine bodyPost_ret (v:=.agg #[.int .i64 x.p.s,.slice x.p.l.A x.p.l.l.length x.p.l.c,.int .i64 x.q.s,.slice x.q.l.A x.q.l.l.length x.q.l.c]) ?_ rfl ⟨.inl ⟨HE.out,x,rfl,HX4.out.newX HDD.out.lt (fun b hb=>Nat.lt_of_lt_of_le (hX b hb) hm2)⟩,below_st4 HB4.out⟩;simp [results,Tryz.results129,go_sem,r0,r1,r2,r3]
  ·obtain ⟨x,rfl,hb3⟩:=hp.no;have HDW:=Zh (HDD.out.later hb3);have HB3:=Zt HB2 hb3;have HE:=Zh he;clear hb3 hp hok hv he;simp only [Frc.v];go_wp2_with fail;refine (ev_must_no x V.e _ HE.out).mono ?_;rintro e w4 ⟨he4,hb4⟩;unfold ErrV at he4;subst he4;have HB4:=Zt HB3 hb4;clear hb4;go_wp2_with fail;exact ⟨rfl,.inr ⟨HE.out,rfl⟩,HB4.out⟩
 by_cases h10 : op=10
 ·subst h10;have hv:=HV.out;rw [appF_10] at hv;simp only [HCM.out] at hv;go_wp2_with fail;refine (ev_truth (decide (C<0)) _).mono ?_;rintro e w3 ⟨x,rfl,hx,hb3⟩;obtain ⟨TB,hTB⟩ : ∃ TB,TB=truF (decide (C<0)):=⟨_,rfl⟩;rw [← hTB] at hx;(have hVT : V=TB:=by rw [hTB,← hv]; (try congr 1));(have h0 : TB.e=0:=by rw [hTB]; rfl);have HX : Hid (RG (Nw w2.heap.size w3) w3 x V.p V.q):=Zh (by rw [hVT]; exact hx);have HE : Hid (V.e=0):=Zh (by rw [hVT]; exact h0);have HB3:=Zt HB2 hb3;clear r0 r1 r2 r3 rf rz;obtain ⟨r0,r1,r2,r3,rf,rz⟩:=(HDD.out.later hb3).b4;have hsz : w2.heap.size≤w3.heap.size:=hb3.size;clear hx hVT h0 hTB hv hb3;simp only [Frc.v];go_wp2_with fail;have hm2:=HB2.out.size;refine bodyPost_ret (v:=.agg #[.int .i64 x.p.s,.slice x.p.l.A x.p.l.l.length x.p.l.c,.int .i64 x.q.s,.slice x.q.l.A x.q.l.l.length x.q.l.c]) ?_ rfl ⟨.inl ⟨HE.out,x,rfl,HX.out.newX HDD.out.lt (fun b hb=>Nat.lt_of_lt_of_le (hX b hb) hm2)⟩,below_st4 HB3.out⟩;simp [results,Tryz.results129,go_sem,r0,r1,r2,r3]
 by_cases h11 : op=11
 ·subst h11;have hv:=HV.out;rw [appF_11] at hv;simp only [HCM.out] at hv;go_wp2_with fail;refine (ev_truth ((C == 0)) _).mono ?_;rintro e w3 ⟨x,rfl,hx,hb3⟩;obtain ⟨TB,hTB⟩ : ∃ TB,TB=truF ((C == 0)):=⟨_,rfl⟩;rw [← hTB] at hx;(have hVT : V=TB:=by rw [hTB,← hv]; (try congr 1));(have h0 : TB.e=0:=by rw [hTB]; rfl);have HX : Hid (RG (Nw w2.heap.size w3) w3 x V.p V.q):=Zh (by rw [hVT]; exact hx);have HE : Hid (V.e=0):=Zh (by rw [hVT]; exact h0);have HB3:=Zt HB2 hb3;clear r0 r1 r2 r3 rf rz;obtain ⟨r0,r1,r2,r3,rf,rz⟩:=(HDD.out.later hb3).b4;have hsz : w2.heap.size≤w3.heap.size:=hb3.size;clear hx hVT h0 hTB hv hb3;simp only [Frc.v];go_wp2_with fail;have hm2:=HB2.out.size;refine bodyPost_ret (v:=.agg #[.int .i64 x.p.s,.slice x.p.l.A x.p.l.l.length x.p.l.c,.int .i64 x.q.s,.slice x.q.l.A x.q.l.l.length x.q.l.c]) ?_ rfl ⟨.inl ⟨HE.out,x,rfl,HX.out.newX HDD.out.lt (fun b hb=>Nat.lt_of_lt_of_le (hX b hb) hm2)⟩,below_st4 HB3.out⟩;simp [results,Tryz.results129,go_sem,r0,r1,r2,r3]
 have hv:=HV.out;rw [appF_m _ _ h4 h5 h6 h7 h10 h11] at hv;simp only [HCM.out] at hv;have hm2:=HB2.out.size;by_cases hmm : decide (C > 0)=decide (op=8)
 ·rw [if_pos hmm] at hv;have HVV:=Zh hv.symm;(have hT : (decide (C > 0) == (op == 8))=true:=by rw [hmm]; by_cases h8 : op=8 <;> simp [h8]);clear hv hmm;go_wp2_with fail;refine bodyPost_ret (v:=.agg #[.int .i64 g.p.s,.slice g.p.l.A g.p.l.l.length g.p.l.c,.int .i64 g.q.s,.slice g.q.l.A g.q.l.l.length g.q.l.c]) ?_ rfl (ApP.cast HVV.out ⟨.inl ⟨rfl,g,rfl,HGO.out.oldX Zo hm2⟩,below_st4 HB2.out⟩);simp [results,Tryz.results129,go_sem,r0,r1,r2,r3]
 ·rw [if_neg hmm] at hv;have HVV:=Zh hv.symm
  have hT : (decide (C > 0) == (op == 8))=false:=by
   cases hq : (decide (C > 0) == (op == 8)) with
   | false=>rfl
   | true=>exact absurd (by rw [beq_iff_eq] at hq; rw [hq]; by_cases h8 : op=8 <;> simp [h8]) hmm
  clear hv hmm;go_wp2_with fail;refine bodyPost_ret (v:=.agg #[.int .i64 f.p.s,.slice f.p.l.A f.p.l.l.length f.p.l.c,.int .i64 f.q.s,.slice f.q.l.A f.q.l.l.length f.q.l.c]) ?_ rfl (ApP.cast HVV.out ⟨.inl ⟨rfl,f,rfl,HFO.out.oldX Zo hm2⟩,below_st4 HB2.out⟩);simp [results,Tryz.results129,go_sem,r0,r1,r2,r3]
end
end Go.Proofs.YtmomlipmpgcheaaGreatDoor
