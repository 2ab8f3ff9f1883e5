/- Words for slices that are read or owned, and small lemmas for the walks. They hold without condition. -/
import Derived.Test.YtmomlipmpgcheaaGreatDoorRows
import Derived.WalkKit
import Derived.WalkSpells
import Derived.WalkLawsBesides
import Derived.Lib.Hide
import Derived.Maps.AppendAt
import Derived.Deep.AppendLies
import Derived.Deep.QuietTactic
import Derived.BigQuiet
import Derived.Deep.RegionHeld3
import Derived.Deep.RegionLaw
set_option linter.unusedSimpArgs false
set_option linter.unusedVariables false
set_option maxRecDepth 100000
set_option maxHeartbeats 6400000
namespace Go.Proofs.YtmomlipmpgcheaaGreatDoor
open Go.RowKit
structure Sl (α : Type) where
  A : Option Addr
  c : Nat
  l : List α
def I64 (n : Int) : Prop:=-9223372036854775808≤n∧n≤9223372036854775807
def Cells (w : World) (b o : Nat) (vs : List Value) : Prop:=∀ j u,vs[j]? = some u→w.cell? ⟨b,o+j,none⟩=some u
def Rd {α : Type} (F : Nat→Prop) (k : Nat) (enc : α→List Value) (w : World) (s : Sl α) : Prop :=
  s.l.length≤s.c∧s.c≤maxLen∧(s.A=none→s.c=0)∧∀ i x,s.l[i]? = some x→∃ b o,s.A=some ⟨b,o,none⟩∧F b∧Cells w b (o+i * k) (enc x)
section
variable {α : Type} {F G : Nat→Prop} {k : Nat} {enc : α→List Value} {w w' : World} {s : Sl α}
theorem Cells.keep {b o : Nat} {vs : List Value} (h : Cells w b o vs) (hk : w'.heap[b]? = w.heap[b]?) : Cells w' b o vs :=
  fun j u hu=>(World.cell?_of_block (w:=w) hk).trans (h j u hu)
theorem Rd.keep (h : Rd F k enc w s) (hk : ∀ b,F b→w'.heap[b]? = w.heap[b]?) : Rd F k enc w' s :=
  ⟨h.1,h.2.1,h.2.2.1,fun i x hx=>by
    obtain ⟨b,o,hA,hF,hc⟩:=h.2.2.2 i x hx
    exact ⟨b,o,hA,hF,hc.keep (hk b hF)⟩⟩
theorem Rd.mono (h : Rd F k enc w s) (hFG : ∀ b,F b→G b) : Rd G k enc w s :=
  ⟨h.1,h.2.1,h.2.2.1,fun i x hx=>by
    obtain ⟨b,o,hA,hF,hc⟩:=h.2.2.2 i x hx
    exact ⟨b,o,hA,hFG b hF,hc⟩⟩
theorem Rd.below {B : Nat} (h : Rd (· < B) k enc w s) (hb : Below B w w') : Rd (· < B) k enc w' s:=h.keep fun b hb'=>hb.block b hb'
theorem Rd.below' {B : Nat} (h : Rd (· < B) k enc w s) (hb : Below B w w') (hB : B≤w.heap.size) : Rd (· < w'.heap.size) k enc w' s :=
  (h.below hb).mono fun _ hb'=>Nat.lt_of_lt_of_le hb' (Nat.le_trans hB hb.size)
theorem Rd.lt_alloc (h : Rd (· < w.heap.size) k enc w s) (o : Obj) : Rd (· < (w.alloc o).heap.size) k enc (w.alloc o) s :=
  h.below' ((Below.refl _ _).alloc (Nat.le_refl _) o) (Nat.le_refl _)
theorem Rd.to_below {B : Nat} (h : Rd F k enc w s) (hF : ∀ b,F b→b<B) (hb : Below B w w') : Rd F k enc w' s:=h.keep fun b hb'=>hb.block b (hF b hb')
theorem Rd.len (h : Rd F k enc w s) : s.l.length≤9223372036854775807:=by
  have:=h.1; have:=h.2.1; unfold maxLen at *; omega
theorem Rd.cap (h : Rd F k enc w s) : s.c≤9223372036854775807:=by
  have:=h.2.1; unfold maxLen at *; omega
theorem Rd.lecap (h : Rd F k enc w s) : s.l.length≤s.c:=h.1
theorem Rd.at1 {i : Nat} (h : Rd F k enc w s) (hi : i<s.l.length) : ∃ b o,s.A=some ⟨b,o,none⟩∧F b∧Cells w b (o+i * k) (enc s.l[i]) :=
  h.2.2.2 i _ (List.getElem?_eq_getElem hi)
theorem Rd.nil (F : Nat→Prop) (k : Nat) (enc : α→List Value) (w : World) : Rd F k enc w ⟨none,0,[]⟩:=⟨Nat.le_refl _,Nat.zero_le _,fun _=>rfl,fun i x hx=>by simp at hx⟩
theorem Rd.none_ (h : Rd F k enc w s) (hA : s.A=none) : s.l=[]∧s.c=0 :=
  ⟨List.eq_nil_of_length_eq_zero (by have:=h.1; have:=h.2.2.1 hA; omega),h.2.2.1 hA⟩
end
theorem Cells.c1 {w : World} {b o : Nat} {x : Value} (h : Cells w b o [x]) : w.cell? ⟨b,o,none⟩=some x:=h 0 _ rfl
theorem Cells.c2 {w : World} {b o : Nat} {x y : Value} (h : Cells w b o [x,y]) : w.cell? ⟨b,o,none⟩=some x∧w.cell? ⟨b,o+1,none⟩=some y:=⟨h 0 _ rfl,h 1 _ rfl⟩
theorem Cells.c3 {w : World} {b o : Nat} {x y z : Value} (h : Cells w b o [x,y,z]) : w.cell? ⟨b,o,none⟩=some x∧w.cell? ⟨b,o+1,none⟩=some y∧w.cell? ⟨b,o+2,none⟩=some z:=⟨h 0 _ rfl,h 1 _ rfl,h 2 _ rfl⟩
theorem Cells.c5 {w : World} {b o : Nat} {x y z s t : Value} (h : Cells w b o [x,y,z,s,t]) :
    w.cell? ⟨b,o,none⟩=some x∧w.cell? ⟨b,o+1,none⟩=some y∧w.cell? ⟨b,o+2,none⟩=some z∧w.cell? ⟨b,o+3,none⟩=some s∧w.cell? ⟨b,o+4,none⟩=some t:=⟨h 0 _ rfl,h 1 _ rfl,h 2 _ rfl,h 3 _ rfl,h 4 _ rfl⟩
theorem ret_int {k : IntKind} {a b : Int} (h : a=b) : Ending.returned (.int k a) = .returned (.int k b):=by rw [h]
theorem ret_bool {a b : Bool} (h : a=b) : Ending.returned (.bool a) = .returned (.bool b):=by rw [h]
theorem bcell {W w1 : World} (hb : Below W.heap.size W w1) : (∀ b o,b<W.heap.size→w1.cell? ⟨b,o,none⟩=W.cell? ⟨b,o,none⟩)∧(∀ b o,b<W.heap.size→w1.frozen? ⟨b,o,none⟩=W.frozen? ⟨b,o,none⟩) :=
  ⟨fun b o h=>hb.cell (p:=⟨b,o,none⟩) h,fun b o h=>hb.frozen (p:=⟨b,o,none⟩) h⟩
theorem below_setr {B : Nat} {a w : World} {p : Addr} {u : Value} (hp : B≤p.block) (h : Below B a w) : Below B a (w.setCell p u):=h.setCell hp u
theorem below_allocr {B : Nat} {a w : World} {o : Obj} (hB : B≤w.heap.size) (h : Below B a w) : Below B a (w.alloc o):=h.alloc hB o
theorem grown_undrew {w w1 : World} {r : Option Nat} (h : w.drew.grownBy w1 r) : w.grownBy w1 r:=⟨h.os,h.tape,h.output,h.size,h.block⟩
def Blk (w : World) (g : Nat) (t : TypeId) (cs : Array Value) : Prop:=w.heap[g]? = some (.cells cs t (0,0))
section
variable {w w' : World} {g : Nat} {t : TypeId} {cs : Array Value}
theorem Blk.lt (h : Blk w g t cs) : g<w.heap.size:=lt_of_block h
theorem Blk.cell (h : Blk w g t cs) (i : Nat) : w.cell? ⟨g,i,none⟩=cs[i]?:=cell_of_row w g i cs t (0,0) h
theorem Blk.frozen (h : Blk w g t cs) (i : Nat) : w.frozen? ⟨g,i,none⟩=false:=by
  unfold Blk at h
  simp [World.frozen?,h]
theorem Blk.new (w : World) (t : TypeId) (cs : Array Value) : Blk (w.alloc (.cells cs t)) w.heap.size t cs:=heap_alloc_new w _
theorem Blk.new' {w : World} {t : TypeId} {cs : Array Value} {g : Nat} (h : g=w.heap.size) : Blk (w.alloc (.cells cs t)) g t cs:=by subst h; exact Blk.new w t cs
theorem Blk.drew (h : Blk w g t cs) : Blk w.drew g t cs:=h
theorem Blk.alloc (h : Blk w g t cs) (o : Obj) : Blk (w.alloc o) g t cs:=(Below.heap_alloc w o g h.lt).trans h
theorem Blk.set_ (h : Blk w g t cs) (i : Nat) (u : Value) : Blk (w.setCell ⟨g,i,none⟩ u) g t (cs.setIfInBounds i u):=by
  unfold Blk at h ⊢
  simp [World.setCell,Array.getElem?_modify,h]
theorem Blk.far (h : Blk w g t cs) {p : Addr} (hp : g≠p.block) (u : Value) : Blk (w.setCell p u) g t cs:=(Below.heap_setCell w p u g hp).trans h
theorem Blk.farr {p : Addr} {u : Value} (hp : g≠p.block) (h : Blk w g t cs) : Blk (w.setCell p u) g t cs:=(Below.heap_setCell w p u g hp).trans h
theorem Blk.below {B : Nat} (h : Blk w g t cs) (hb : Below B w w') (hg : g<B) : Blk w' g t cs:=(hb.block g hg).trans h
theorem Blk.later (h : Blk w g t cs) (hb : Below w.heap.size w w') : Blk w' g t cs:=(hb.block g h.lt).trans h
theorem Blk.grown {row : Option Nat} (h : Blk w g t cs) (hb : w.grownBy w' row) (hg : some g≠row) : Blk w' g t cs:=(hb.block g h.lt hg).trans h
def hp (w : World) (n : Nat) : Option Obj:=w.heap[n]?
theorem Blk.eq (h : Blk w g t cs) : hp w g=some (.cells cs t (0,0)):=h
theorem blk_later (hb : Below w.heap.size w w') (h : hp w g=some (.cells cs t (0,0))) : Blk w' g t cs:=(hb.block g (lt_of_block h)).trans h
theorem blk_here (h : hp w g=some (.cells cs t (0,0))) : Blk w g t cs:=h
theorem hp_past {o : Obj} {n : Nat} (h : n<w.heap.size) : hp (w.alloc o) n=hp w n:=Below.heap_alloc w o n h
theorem hp_at {o : Obj} {n : Nat} (h : n=w.heap.size) : hp (w.alloc o) n=some o:=by subst h; exact heap_alloc_new w _
theorem hp_other {p : Addr} {u : Value} {n : Nat} (h : n≠p.block) : hp (w.setCell p u) n=hp w n:=Below.heap_setCell w p u n h
theorem hp_same {u : Value} {n i : Nat} (h : hp w n=some (.cells cs t (0,0))) : hp (w.setCell ⟨n,i,none⟩ u) n=some (.cells (cs.setIfInBounds i u) t (0,0)):=Blk.set_ h i u
theorem hp_drew {n : Nat} : hp w.drew n=hp w n:=rfl
theorem hp_drewN {n k : Nat} : hp (w.drewN k) n=hp w n:=rfl
theorem Blk.b1 {x : Value} (h : Blk w g t #[x]) : w.cell? ⟨g,0,none⟩=some x∧(∀ o,w.frozen? ⟨g,o,none⟩=false)∧g<w.heap.size:=⟨h.cell 0,h.frozen,h.lt⟩
theorem Blk.b2 {x y : Value} (h : Blk w g t #[x,y]) : w.cell? ⟨g,0,none⟩=some x∧w.cell? ⟨g,1,none⟩=some y∧(∀ o,w.frozen? ⟨g,o,none⟩=false)∧g<w.heap.size:=⟨h.cell 0,h.cell 1,h.frozen,h.lt⟩
theorem Blk.b3 {x y z : Value} (h : Blk w g t #[x,y,z]) : w.cell? ⟨g,0,none⟩=some x∧w.cell? ⟨g,1,none⟩=some y∧w.cell? ⟨g,2,none⟩=some z∧(∀ o,w.frozen? ⟨g,o,none⟩=false)∧g<w.heap.size:=⟨h.cell 0,h.cell 1,h.cell 2,h.frozen,h.lt⟩
theorem Blk.b4 {x y z s : Value} (h : Blk w g t #[x,y,z,s]) : w.cell? ⟨g,0,none⟩=some x∧w.cell? ⟨g,1,none⟩=some y∧w.cell? ⟨g,2,none⟩=some z∧w.cell? ⟨g,3,none⟩=some s∧(∀ o,w.frozen? ⟨g,o,none⟩=false)∧g<w.heap.size:=⟨h.cell 0,h.cell 1,h.cell 2,h.cell 3,h.frozen,h.lt⟩
theorem Blk.b5 {x y z s r : Value} (h : Blk w g t #[x,y,z,s,r]) : w.cell? ⟨g,0,none⟩=some x∧w.cell? ⟨g,1,none⟩=some y∧w.cell? ⟨g,2,none⟩=some z∧w.cell? ⟨g,3,none⟩=some s∧w.cell? ⟨g,4,none⟩=some r∧(∀ o,w.frozen? ⟨g,o,none⟩=false)∧g<w.heap.size:=⟨h.cell 0,h.cell 1,h.cell 2,h.cell 3,h.cell 4,h.frozen,h.lt⟩
theorem Blk.c3c {x y z : Value} (h : Blk w g t #[x,y,z]) : Cells w g 0 [x,y,z]:=fun j u hu=>by rw [h.cell,Nat.zero_add]; simpa using hu
theorem Blk.c5c {x y z s r : Value} (h : Blk w g t #[x,y,z,s,r]) : Cells w g 0 [x,y,z,s,r]:=fun j u hu=>by rw [h.cell,Nat.zero_add]; simpa using hu
end
/-! Lists of elements of k values each. -/
section
variable {α : Type} {enc : α→List Value} {k : Nat}
theorem flat_len (hk : ∀ x,(enc x).length=k) : ∀ l : List α,(l.flatMap enc).length=l.length * k
  | []=>by simp
  | x :: l=>by simp [flat_len hk l,hk,Nat.add_mul,Nat.add_comm]
theorem flat_get (hk : ∀ x,(enc x).length=k) : ∀ (l : List α) (i j : Nat) (x : α),l[i]? = some x→j<k→(l.flatMap enc)[i * k+j]? = (enc x)[j]?
  | [],i,j,x,h,_=>by simp at h
  | y :: l,0,j,x,h,hj=>by
    simp at h; subst h
    simp only [List.flatMap_cons,Nat.zero_mul,Nat.zero_add]
    rw [List.getElem?_append_left (by rw [hk]; exact hj)]
  | y :: l,i+1,j,x,h,hj=>by
    simp only [List.getElem?_cons_succ] at h
    rw [List.flatMap_cons,List.getElem?_append_right (by rw [hk,Nat.add_mul]; omega),hk,← flat_get hk l i j x h hj]
    congr 1
    rw [Nat.add_mul]; omega
theorem flat_set (hk : ∀ x,(enc x).length=k) : ∀ (l : List α) (i j : Nat) (x y : α) (u : Value),l[i]? = some x→j<k→enc y=(enc x).set j u →
    (l.set i y).flatMap enc=(l.flatMap enc).set (i * k+j) u
  | [],i,j,x,y,u,h,_,_=>by simp at h
  | z :: l,0,j,x,y,u,h,hj,he=>by
    simp at h; subst h
    simp only [List.set_cons_zero,List.flatMap_cons,Nat.zero_mul,Nat.zero_add,he]
    rw [List.set_append_left _ _ (by rw [hk]; exact hj)]
  | z :: l,i+1,j,x,y,u,h,hj,he=>by
    simp only [List.getElem?_cons_succ] at h
    simp only [List.set_cons_succ,List.flatMap_cons]
    rw [flat_set hk l i j x y u h hj he,List.set_append_right _ _ (by rw [hk,Nat.add_mul]; omega),hk]
    congr 2
    rw [Nat.add_mul]; omega
end
def Own {α : Type} (base : Nat) (e : TypeId) (k : Nat) (enc : α→List Value) (w : World) (s : Sl α) : Prop :=
  w.ownsRow base e k (.slice s.A s.l.length s.c) s.l.length (s.l.flatMap enc)
section
variable {α : Type} {base : Nat} {e : TypeId} {k : Nat} {enc : α→List Value} {w w' : World} {s : Sl α}
theorem Own.nil (base : Nat) (e : TypeId) (k : Nat) (enc : α→List Value) (w : World) : Own base e k enc w ⟨none,0,[]⟩:=World.ownsRow_nil w base e k
theorem Own.form (h : Own base e k enc w s) : (s.A=none∧s.c=0∧s.l=[])∨∃ g,s.A=some ⟨g,0,none⟩∧base≤g∧g<w.heap.size∧s.l.length≤s.c∧s.c≤maxLen:=by
  rcases h.2 with ⟨hv,hn⟩ | ⟨g,cap,cur,hv,hb,hh,hnc,hcm,_⟩
  · injection hv with h1 h2 h3
    exact .inl ⟨h1,h3,List.eq_nil_of_length_eq_zero hn⟩
  · injection hv with h1 h2 h3
    refine .inr ⟨g,h1,hb, ?_,by omega,by omega⟩
    rcases Nat.lt_or_ge g w.heap.size with hlt | hge
    · exact hlt
    · rw [Array.getElem?_eq_none hge] at hh; cases hh
theorem Own.rd (hk : ∀ x,(enc x).length=k) (h : Own base e k enc w s) : Rd (fun b=>base≤b∧b<w.heap.size) k enc w s:=by
  rcases h.form with ⟨hA,hc,hl⟩ | ⟨g,hA,hb,hlt,hlc,hcm⟩
  · refine ⟨by rw [hl]; simp,by rw [hc]; exact Nat.zero_le _,fun _=>hc,fun i x hx=>?_⟩
    rw [hl] at hx; simp at hx
  · refine ⟨hlc,hcm,fun h0=>(by rw [hA] at h0; cases h0),fun i x hx=>⟨g,0,hA,⟨hb,hlt⟩,fun j u hu=>?_⟩⟩
    have hj : j<k:=by rw [← hk x]; exact (List.getElem?_eq_some_iff.1 hu).1
    have hi : i<s.l.length:=(List.getElem?_eq_some_iff.1 hx).1
    have h':=h
    unfold Own at h'
    rw [hA] at h'
    have hjk : i * k+j<s.l.length * k:=by
      have : (i+1) * k≤s.l.length * k:=Nat.mul_le_mul_right _ hi
      rw [Nat.add_mul] at this; omega
    have h2:=h'.cellAt (i * k+j) hjk
    rw [flat_get hk _ _ _ _ hx hj,hu] at h2
    rw [Nat.zero_add]; exact h2
theorem Own.kept {row : Option Nat} (h : Own base e k enc w s) (hg : w.grownBy w' row) (hne : (Value.slice s.A s.l.length s.c).ownBlock=none∨(Value.slice s.A s.l.length s.c).ownBlock≠row) : Own base e k enc w' s :=
  World.ownsRow.kept h hg hne
theorem Own.below (h : Own base e k enc w s) (hb : Below w.heap.size w w') : Own base e k enc w' s :=
  World.ownsRow.kept (row:=none) h ⟨hb.os,hb.tape,hb.output,hb.size,fun j hj _=>hb.block j hj⟩ (by cases hA : s.A <;> simp [Value.ownBlock])
theorem Own.alloc (h : Own base e k enc w s) (o : Obj) : Own base e k enc (w.alloc o) s:=World.ownsRow.alloc h o
theorem Own.mono {base' : Nat} (h : Own base e k enc w s) (hb : base'≤base) : Own base' e k enc w s:=by
  refine ⟨h.1, ?_⟩
  rcases h.2 with h2 | ⟨g,cap,cur,hv,hg,r⟩
  · exact .inl h2
  · exact .inr ⟨g,cap,cur,hv,Nat.le_trans hb hg,r⟩
theorem Own.set {g : Nat} (hk : ∀ x,(enc x).length=k) (h : Own base e k enc w s) (hA : s.A=some ⟨g,0,none⟩) {i j : Nat} {x y : α} {u : Value} (hx : s.l[i]? = some x) (hj : j<k) (he : enc y=(enc x).set j u) :
    Own base e k enc (w.setCell ⟨g,i * k+j,none⟩ u) ⟨s.A,s.c,s.l.set i y⟩:=by
  unfold Own at h ⊢
  rw [hA] at h ⊢
  have h2:=(h.stored (i * k+j) u).1
  simp only [List.length_set]
  rw [flat_set hk _ _ _ _ _ _ hx hj he]
  exact h2
theorem Own.other (h : Own base e k enc w s) {a : Addr} (ha : ∀ g,s.A=some ⟨g,0,none⟩→g≠a.block) (u : Value) : Own base e k enc (w.setCell a u) s:=by
  refine ownsRow_setCell_other h ?_ u
  rcases h.form with ⟨hA,_⟩ | ⟨g,hA,_⟩
  · rw [hA]; simp [Value.ownBlock]
  · rw [hA]; simp only [Value.ownBlock]; intro hc; injection hc with hc; exact ha g hA hc
theorem Own.far (h : Own base e k enc w s) {a : Addr} (ha : a.block<base) (u : Value) : Own base e k enc (w.setCell a u) s:=ownsRow_setCell_below h ha u
theorem Own.otherr {B : Nat} {a : Addr} {u : Value} (hg : ∀ g,s.A=some ⟨g,0,none⟩→g<B) (hB : B≤a.block) (h : Own base e k enc w s) : Own base e k enc (w.setCell a u) s:=h.other (fun g hA=>by have:=hg g hA; omega) u
theorem Own.bound (h : Own base e k enc w s) : ∀ g,s.A=some ⟨g,0,none⟩→g<w.heap.size:=fun g hA=>by
  rcases h.form with ⟨h0,_⟩ | ⟨g',h1,_,h2,_⟩
  · rw [h0] at hA; cases hA
  · rw [h1] at hA; injection hA with hA; injection hA with hA; omega
theorem Own.farr {a : Addr} {u : Value} (ha : a.block<base) (h : Own base e k enc w s) : Own base e k enc (w.setCell a u) s:=ownsRow_setCell_below h ha u
theorem Own.drew (h : Own base e k enc w s) : Own base e k enc w.drew s:=h
theorem Own.drewN (h : Own base e k enc w s) (n : Nat) : Own base e k enc (w.drewN n) s:=h
theorem Own.frozen {g : Nat} (h : Own base e k enc w s) (hA : s.A=some ⟨g,0,none⟩) (j : Nat) : w.frozen? ⟨g,j,none⟩=false:=by
  unfold Own at h; rw [hA] at h; exact h.frozenAt j
theorem Own.lit (w : World) (cs : Array Value) (l : List α) (hb : base≤w.heap.size) (hm : l.length≤maxLen) (hs : cs.toList=l.flatMap enc) (hk : ∀ x,(enc x).length=k) :
    Own base e k enc (w.alloc (.cells cs e)) ⟨some ⟨w.heap.size,0,none⟩,l.length,l⟩:=by
  have hl : cs.size=l.length * k:=by rw [← Array.length_toList,hs,flat_len hk]
  have:=World.ownsRow_lit (e:=e) (size:=k) w cs l.length hb hm hl
  unfold Own
  rw [← hs]; exact this
end
def Info (P : Program) (e : TypeId) (z : Value) (size bytes : Nat) : Prop:=∃ i,P.info? e=some i∧i.zero=some z∧i.size=size∧i.bytes=bytes∧z.cells.size=size
theorem info_mk {P : Program} {e : TypeId} {z : Value} {size bytes : Nat} (h : (P.info? e).map (fun i=>(i.zero,i.size,i.bytes))=some (some z,size,bytes)) (hz : z.cells.size=size) : Info P e z size bytes:=by
  obtain ⟨i,h1,h2,h3,h4⟩:=info_parts h
  exact ⟨i,h1,h2,h3,h4,hz⟩
section
variable {P : Program} (w : World) {α : Type} {enc : α→List Value}
theorem run_append_nil' (base : Nat) (t ty e : TypeId) (i : TypeInfo) (size : Nat) (ht : P.underlying t=some (.slice e)) (hi : P.info? e=some i)
    (v : Value) (n : Nat) (xs : List Value) (hown : w.ownsRow base e size v n xs) (c : Nat) : (Builtin.append_ #[t,t] ty #[v,.slice none 0 c]).run P w = .ok v w:=by
  rcases hown.2 with ⟨rfl,rfl⟩ | ⟨g,cap,cur,rfl,_,_,hnc,_⟩
  · simp [Builtin.append_,run_underlying ht,sizeOf,typeInfo,hi,Builtin.lenOf,Builtin.firstCells]
  · simp [Builtin.append_,run_underlying ht,sizeOf,typeInfo,hi,Builtin.lenOf,Builtin.firstCells,hnc,storeCells]
theorem run_append_sl {F : Nat→Prop} {base : Nat} (t ty : TypeId) {e : TypeId} {z : Value} {size bytes : Nat} (ht : P.underlying t=some (.slice e)) (hI : Info P e z size bytes) (hsz : 0<size)
    (hk : ∀ x,(enc x).length=size) (h1 : ∀ x,∀ u ∈ enc x,u.oneCell'=true) {d s : Sl α} (hown : Own base e size enc w d) (hr : Rd F size enc w s)
    (h63 : d.l.length+s.l.length≤maxLen) (hbytes : (d.l.length+s.l.length) * bytes≤140737488355328) (hbase : base≤w.heap.size) :
    ∃ (r : Sl α) (w' : World),(Builtin.append_ #[t,t] ty #[.slice d.A d.l.length d.c,.slice s.A s.l.length s.c]).run P w = .ok (.slice r.A r.l.length r.c) w'∧r.l=d.l ++ s.l∧Own base e size enc w' r ∧
      w.grownBy w' (Value.slice d.A d.l.length d.c).ownBlock∧(r.A=d.A∨r.A=some ⟨w.heap.size,0,none⟩):=by
  obtain ⟨i,hi,hz,hsize,hby,hzs⟩:=hI
  have key : ∀ v' w',(Builtin.append_ #[t,t] ty #[.slice d.A d.l.length d.c,.slice s.A s.l.length s.c]).run P w = .ok v' w'→w'.ownsRow base e size v' (d.l.length+s.l.length) (d.l.flatMap enc ++ s.l.flatMap enc) →
      w.grownBy w' (Value.slice d.A d.l.length d.c).ownBlock→(v'.ownBlock=(Value.slice d.A d.l.length d.c).ownBlock∨v'.ownBlock=some w.heap.size) →
      ∃ (r : Sl α) (w' : World),(Builtin.append_ #[t,t] ty #[.slice d.A d.l.length d.c,.slice s.A s.l.length s.c]).run P w = .ok (.slice r.A r.l.length r.c) w'∧r.l=d.l ++ s.l∧Own base e size enc w' r ∧
      w.grownBy w' (Value.slice d.A d.l.length d.c).ownBlock∧(r.A=d.A∨r.A=some ⟨w.heap.size,0,none⟩):=by
    intro v' w' hrun hown' hg hat
    have hlen : (d.l ++ s.l).length=d.l.length+s.l.length:=List.length_append
    rcases hown'.2 with ⟨rfl,hn⟩ | ⟨g,cap,cur,rfl,hb,hh,_⟩
    · refine ⟨⟨none,0,d.l ++ s.l⟩,w',by rw [hrun,hlen,hn],rfl, ?_,hg, ?_⟩
      · unfold Own; simp only [hlen,List.flatMap_append]; rw [hn] at hown' ⊢; exact hown'
      · left
        have hd : d.l=[]:=List.eq_nil_of_length_eq_zero (by omega)
        rcases hown.form with ⟨hA,_⟩ | ⟨g,hA,_⟩
        · rw [hA]
        · exfalso
          rw [hA] at hat
          rcases hat with hat | hat <;> simp [Value.ownBlock] at hat
    · refine ⟨⟨some ⟨g,0,none⟩,cap,d.l ++ s.l⟩,w',by rw [hrun,hlen],rfl, ?_,hg, ?_⟩
      · unfold Own; simp only [hlen,List.flatMap_append]; exact hown'
      · rcases hown.form with ⟨hA,_⟩ | ⟨g',hA,_⟩
        · rw [hA] at hat ⊢
          rcases hat with hat | hat
          · simp [Value.ownBlock] at hat
          · right; simp [Value.ownBlock] at hat; simp [hat]
        · rw [hA] at hat ⊢
          rcases hat with hat | hat
          · left; simp [Value.ownBlock] at hat; simp [hat]
          · right; simp [Value.ownBlock] at hat; simp [hat]
  rcases hA : s.A with _ | ad
  · obtain ⟨hl,hc⟩:=hr.none_ hA
    have hrun:=run_append_nil' (P:=P) w base t ty e i size ht hi _ _ _ hown 0
    have:=key _ w (by rw [hA,hl,hc]; exact hrun) (by rw [hl]; simp only [List.length_nil,Nat.add_zero,List.flatMap_nil,List.append_nil]; exact hown) (World.grownBy.refl w _) (.inl rfl)
    rwa [hA] at this
  · have hnews : ∀ j u,(s.l.flatMap enc)[j]? = some u→w.cell? (ad.add j)=some u:=by
      intro j u hu
      have hjl : j<s.l.length * size:=by rw [← flat_len hk]; exact (List.getElem?_eq_some_iff.1 hu).1
      have hjd : j=j / size * size+j % size:=by rw [Nat.mul_comm]; exact (Nat.div_add_mod j size).symm
      have hi' : j / size<s.l.length:=Nat.div_lt_of_lt_mul (by rw [Nat.mul_comm]; exact hjl)
      obtain ⟨b,o,hb,_,hc⟩:=hr.at1 hi'
      rw [hA] at hb
      injection hb with hb
      subst hb
      rw [hjd,flat_get hk _ _ _ _ (List.getElem?_eq_getElem hi') (Nat.mod_lt _ hsz)] at hu
      have:=hc _ _ hu
      rw [hjd]
      unfold Addr.add
      split
      · rename_i h0; rw [show o+j / size * size+j % size=o from by omega] at this; exact this
      · rw [show o+(j / size * size+j % size)=o+j / size * size+j % size from by omega]; exact this
    have h1' : ∀ u ∈ s.l.flatMap enc,u.oneCell'=true:=by
      intro u hu
      obtain ⟨x,_,hx⟩:=List.mem_flatMap.1 hu
      exact h1 x u hx
    obtain ⟨v',w',hrun,h2,h3,_,h5⟩:=run_append_own_at (P:=P) w base t ty e i z size bytes ht hi hz hsize hby hzs hsz _ _ _ hown ad s.l.length s.c _ (flat_len hk _) hnews h1' h63 hbytes hbase
    have:=key v' w' (by rw [hA]; exact hrun) h2 h3 h5
    rwa [hA] at this
theorem wp_append_sl {o : Oper} {a : Act} {K : Act→World→Prop} {Q : Exit→Act→World→Prop} (x y : Operand) (t : TypeId)
    (ho : o.op = .call { callee:=.builtin .append,args:=#[x,y],argTypes:=#[t,t] }) {F : Nat→Prop} {base : Nat} {e : TypeId} {z : Value} {size bytes : Nat} (ht : P.underlying t=some (.slice e)) (hI : Info P e z size bytes) (hsz : 0<size)
    (hk : ∀ x,(enc x).length=size) (h1 : ∀ x,∀ u ∈ enc x,u.oneCell'=true) (d s : Sl α) (hx : a.eval x = .slice d.A d.l.length d.c) (hy : a.eval y = .slice s.A s.l.length s.c) (hown : Own base e size enc w d) (hr : Rd F size enc w s)
    (h63 : d.l.length+s.l.length≤maxLen) (hbytes : (d.l.length+s.l.length) * bytes≤140737488355328) (hbase : base≤w.heap.size)
    (h : ∀ (A : Option Addr) (c : Nat) (w' : World),Own base e size enc w' ⟨A,c,d.l ++ s.l⟩→w.grownBy w' (Value.slice d.A d.l.length d.c).ownBlock→(A=d.A∨A=some ⟨w.heap.size,0,none⟩)→K (a.put o.dst (.slice A (d.l ++ s.l).length c)) w') : o.wp P a w K Q:=by
  obtain ⟨⟨rA,rc,rl⟩,w',hrun,rfl,h3,h4,h5⟩:=run_append_sl (P:=P) w t o.type ht hI hsz hk h1 hown hr h63 hbytes hbase
  unfold Oper.wp execOp
  simp only [ho,resolve,invoke,builtin,Sem.run_bind,Sem.run_pure,Result.andThen_ok,List.map_toArray,List.map_cons,List.map_nil,hx,hy,hrun]
  exact h rA rc w' h3 h4 h5
theorem wpl_append_sl {ops : Array Oper} {rest : List Oper} {o : Oper} {a : Act} {Q : Exit→Act→World→Prop} (hgd : o.guard=none) (x y : Operand) (t : TypeId)
    (ho : o.op = .call { callee:=.builtin .append,args:=#[x,y],argTypes:=#[t,t] }) {F : Nat→Prop} {base : Nat} {e : TypeId} {z : Value} {size bytes : Nat} (ht : P.underlying t=some (.slice e)) (hI : Info P e z size bytes) (hsz : 0<size)
    (hk : ∀ x,(enc x).length=size) (h1 : ∀ x,∀ u ∈ enc x,u.oneCell'=true) (d s : Sl α) (hx : a.eval x = .slice d.A d.l.length d.c) (hy : a.eval y = .slice s.A s.l.length s.c) (hown : Own base e size enc w d) (hr : Rd F size enc w s)
    (h63 : d.l.length+s.l.length≤maxLen) (hbytes : (d.l.length+s.l.length) * bytes≤140737488355328) (hbase : base≤w.heap.size)
    (h : ∀ (A : Option Addr) (c : Nat) (w' : World),Own base e size enc w' ⟨A,c,d.l ++ s.l⟩→w.grownBy w' (Value.slice d.A d.l.length d.c).ownBlock→(A=d.A∨A=some ⟨w.heap.size,0,none⟩)→wpList P ops Q rest (a.put o.dst (.slice A (d.l ++ s.l).length c)) w') : wpList P ops Q (o :: rest) a w :=
  wpList_plain hgd fun _ hK=>wp_append_sl w x y t ho ht hI hsz hk h1 d s hx hy hown hr h63 hbytes hbase fun A c w' h3 h4 h5=>hK _ _ (h A c w' h3 h4 h5)
end
theorem qbl {P : Prop} (h : P:=by repeat (first | (with_reducible exact Below.refl _ _) | ((with_reducible refine below_setr ?_ ?_); focus (first | (simp; done) | (simp; omega) | omega)) | ((with_reducible refine below_allocr ?_ ?_); focus (first | (simp; done) | (simp; omega) | omega)) | (with_reducible refine Below.drew ?_) | (with_reducible refine below_drewN ?_ _))) : P:=h
theorem qbh {P : Prop} (h : P:=by repeat (first | (with_reducible assumption) | (with_reducible exact Below.refl _ _) | ((with_reducible refine below_setr ?_ ?_); focus (first | (simp; done) | (simp; omega) | omega)) | ((with_reducible refine below_allocr ?_ ?_); focus (first | (simp; done) | (simp; omega) | omega)) | (with_reducible refine Below.drew ?_) | (with_reducible refine below_drewN ?_ _))) : P:=h
theorem qvia {a w w' : World} (hb : Below a.heap.size a w') (h1 : Below w.heap.size w a) : Below w.heap.size w w':=Below.trans h1 (hb.mono h1.size)
theorem qbv {P : Prop} (h : P:=by repeat (first | (with_reducible assumption) | (with_reducible exact Below.refl _ _) | ((with_reducible refine below_setr ?_ ?_); focus (first | (simp; done) | (simp; omega) | omega)) | ((with_reducible refine below_allocr ?_ ?_); focus (first | (simp; done) | (simp; omega) | omega)) | (with_reducible refine Below.drew ?_) | (with_reducible refine below_drewN ?_ _) | ((with_reducible apply qvia); focus (with_reducible assumption)))) : P:=h
theorem qsa {α : Type _} {l : List α} {i : Nat} {a : α} : l.toArray.setIfInBounds i a=(l.set i a).toArray:=List.setIfInBounds_toArray ..
theorem qsb {α : Type _} {x a : α} {l : List α} : (x :: l).set 0 a=a :: l:=rfl
theorem qsc {α : Type _} {x a : α} {l : List α} {n : Nat} : (x :: l).set (n+1) a=x :: l.set n a:=rfl
theorem qkb {w w' : World} {g : Nat} {cs : Array Value} {t : TypeId} (hb : Below w.heap.size w w') (h : hp w g=some (.cells cs t (0,0)):=by simp [hp_past,hp_at,hp_other,hp_same,hp_drew,hp_drewN]) : Blk w' g t cs:=blk_later hb h
theorem qkc {w0 w w' : World} {g : Nat} {cs cs0 : Array Value} {t t0 : TypeId} (B : Hid (Blk w0 g t0 cs0)) (hb : Below w.heap.size w w') (h : Blk w0 g t0 cs0→hp w g=some (.cells cs t (0,0)):=by intro B; simp [hp_past,hp_at,hp_other,hp_same,hp_drew,hp_drewN,B.eq,B.lt,hp_same B.eq]) : Blk w' g t cs:=blk_later hb (h B.out)
theorem Zh {p : Prop} (h : p) : Hid p:=Lib.hid h
theorem Zt {w w1 w2 : World} (h : Hid (Below w.heap.size w w1)) (hb : Below w1.heap.size w1 w2) : Hid (Below w.heap.size w w2):=Lib.hid (h.out.trans (hb.mono h.out.size))
theorem Zp {p : Prop} (h : p:=by first | omega | (simp; done) | (simp; omega)) : p:=h
theorem Zi {A B S : Prop} (s : S) (b : B) (h : S→A:=by first | exact fun s _=>s | exact fun s=>s) : A∧B:=⟨h s,b⟩
theorem Zo {p : Prop} (h : p:=by omega) : p:=h
theorem Zy {p : Prop} (h : p:=by kernel_rfl) : p:=h
theorem Zs {p : Prop} (h : p:=by simp) : p:=h
theorem Zl {n : Nat} : n≤n:=Nat.le_refl n
theorem Zz {B : Nat} {w : World} : Below B w w:=Below.refl B w
abbrev Zf : Array Value:=#[.int .i64 0,.slice none 0 0,.int .i64 0,.slice none 0 0]
abbrev Zg : Array Value:=#[.int .i64 0,.slice none 0 0]
section
variable {w : World} {g : Nat} {t : TypeId} {x y z s r : Value}
theorem Zb1 (h : Blk w g t #[x]) : Hid (Blk w g t #[x])∧w.cell? ⟨g,0,none⟩=some x∧(∀ o,w.frozen? ⟨g,o,none⟩=false)∧g<w.heap.size:=⟨Lib.hid h,h.b1⟩
theorem Zb2 (h : Blk w g t #[x,y]) : Hid (Blk w g t #[x,y])∧w.cell? ⟨g,0,none⟩=some x∧w.cell? ⟨g,1,none⟩=some y∧(∀ o,w.frozen? ⟨g,o,none⟩=false)∧g<w.heap.size:=⟨Lib.hid h,h.b2⟩
theorem Zb3 (h : Blk w g t #[x,y,z]) : Hid (Blk w g t #[x,y,z])∧w.cell? ⟨g,0,none⟩=some x∧w.cell? ⟨g,1,none⟩=some y∧w.cell? ⟨g,2,none⟩=some z∧(∀ o,w.frozen? ⟨g,o,none⟩=false)∧g<w.heap.size:=⟨Lib.hid h,h.b3⟩
theorem Zb4 (h : Blk w g t #[x,y,z,s]) : Hid (Blk w g t #[x,y,z,s])∧w.cell? ⟨g,0,none⟩=some x∧w.cell? ⟨g,1,none⟩=some y∧w.cell? ⟨g,2,none⟩=some z∧w.cell? ⟨g,3,none⟩=some s∧(∀ o,w.frozen? ⟨g,o,none⟩=false)∧g<w.heap.size:=⟨Lib.hid h,h.b4⟩
theorem Zb5 (h : Blk w g t #[x,y,z,s,r]) : Hid (Blk w g t #[x,y,z,s,r])∧w.cell? ⟨g,0,none⟩=some x∧w.cell? ⟨g,1,none⟩=some y∧w.cell? ⟨g,2,none⟩=some z∧w.cell? ⟨g,3,none⟩=some s∧w.cell? ⟨g,4,none⟩=some r∧(∀ o,w.frozen? ⟨g,o,none⟩=false)∧g<w.heap.size:=⟨Lib.hid h,h.b5⟩
end
section
variable {w0 w w' : World} {g : Nat} {t t0 : TypeId} {cs0 cs : Array Value}
theorem Zks (B : Hid (Blk w0 g t cs)) (hb : Below w.heap.size w w') (h : Blk w0 g t cs→hp w g=some (.cells cs t (0,0)):=by intro B; first | (simp [hp_past,hp_at,hp_other,hp_same,hp_drew,hp_drewN,B.eq,B.lt,hp_same B.eq]; done) | (have l0 : ∀ n : Nat,n<n+1+1:=fun n=>(by omega); have l1 : ∀ n : Nat,n<n+1+1+1:=fun n=>(by omega); simp [l1,hp_past,hp_at,hp_other,hp_same,hp_drew,hp_drewN,B.eq,B.lt,hp_same B.eq,l0])) : Blk w' g t cs:=blk_later hb (h B.out)
theorem Zk0 (B : Hid (Blk w0 g t0 cs0)) (hb : Below w.heap.size w w') (h : Blk w0 g t0 cs0→hp w g=some (.cells cs t (0,0)):=by intro B; first | (simp [hp_past,hp_at,hp_other,hp_same,hp_drew,hp_drewN,B.eq,B.lt,hp_same B.eq]; done) | (have l0 : ∀ n : Nat,n<n+1+1:=fun n=>(by omega); have l1 : ∀ n : Nat,n<n+1+1+1:=fun n=>(by omega); simp [l1,hp_past,hp_at,hp_other,hp_same,hp_drew,hp_drewN,B.eq,B.lt,hp_same B.eq,l0])) : Blk w' g t cs:=blk_later hb (h B.out)
theorem Zk1 (hb : Below w.heap.size w w') (h : hp w g=some (.cells cs t (0,0)):=by first | (simp [hp_past,hp_at,hp_other,hp_same,hp_drew,hp_drewN]; done) | (have l0 : ∀ n : Nat,n<n+1+1:=fun n=>(by omega); have l1 : ∀ n : Nat,n<n+1+1+1:=fun n=>(by omega); simp [l1,hp_past,hp_at,hp_other,hp_same,hp_drew,hp_drewN,l0])) : Blk w' g t cs:=blk_later hb h
end
end Go.Proofs.YtmomlipmpgcheaaGreatDoor
