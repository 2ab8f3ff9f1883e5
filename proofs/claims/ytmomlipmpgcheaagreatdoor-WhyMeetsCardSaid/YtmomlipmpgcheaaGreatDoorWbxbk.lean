/- clear of the last elements of a row; DeleteFunc's steps, plain; a row stored into the middle of a block. -/
import Derived.Test.YtmomlipmpgcheaaGreatDoorWbxbj
import Derived.Lib.AppendZerosOnto
import Derived.Laws.CopyRow
import Derived.Deep.MidRow
set_option linter.unusedSimpArgs false
set_option linter.unusedVariables false
set_option maxRecDepth 100000
set_option maxHeartbeats 6400000
namespace Go.Proofs.YtmomlipmpgcheaaGreatDoor
open Go.RowKit
section
variable {P : Program} {α : Type} {enc : α→List Value} {k : Nat}
theorem tl_len (cur : Array Value) : cur.toList.length=cur.size:=Array.length_toList
theorem flat_take (hk : ∀ x,(enc x).length=k) : ∀ (l : List α) (i : Nat),(l.flatMap enc).take (i * k)=(l.take i).flatMap enc
  | [],i=>by simp
  | x :: l,0=>by simp
  | x :: l,i+1=>by
    rw [List.flatMap_cons,List.take_succ_cons,List.flatMap_cons,← flat_take hk l i,List.take_append,hk,Nat.add_mul,List.take_of_length_le (by rw [hk]; omega)]
    congr 2
    omega
theorem wpl_clear_k {w : World} {ops : Array Oper} {rest : List Oper} {o : Oper} {a : Act} {Q : Exit→Act→World→Prop} (hgd : o.guard=none) (x : Operand) (t : TypeId)
    (ho : o.op = .call { callee:=.builtin .clear,args:=#[x],argTypes:=#[t] }) {e : TypeId} {z : Value} {size bytes : Nat} (hu : P.underlying t=some (.slice e)) (hI : Info P e z size bytes) (hz1 : ∀ v ∈ z.cells.toList,v.oneCell'=true) (g off n c : Nat) (hn0 : 0<n) (cur : Array Value) (te : TypeId)
    (hx : a.eval x = .slice (some ⟨g,off,none⟩) n c) (hg : Blk w g te cur) (hfit : off+n * size≤cur.size)
    (h : ∀ w' cur',Blk w' g te cur'→cur'.size=cur.size→cur'.toList.take off=cur.toList.take off→w.grownBy w' (some g)→wpList P ops Q rest (a.put o.dst (.tuple #[])) w') : wpList P ops Q (o :: rest) a w:=by
  refine wpList_plain hgd fun _ hK=>?_
  obtain ⟨inf,hi,hz,hsize,hby,hzs⟩:=hI
  have hsz : (Builtin.zeroCells z.cells n).toList.length=n * size:=by rw [Array.length_toList,size_zeroCells,hzs]
  have h1 : ∀ v ∈ (Builtin.zeroCells z.cells n).toList,v.oneCell'=true:=by
    intro v hv
    simp only [Builtin.zeroCells,Array.toList_map,List.mem_map] at hv
    obtain ⟨j,hj,rfl⟩:=hv
    have hj' : j<n * z.cells.size:=by simpa using hj
    have hpos : 0<z.cells.size:=by
      rcases Nat.eq_zero_or_pos z.cells.size with h0 | h0
      · rw [h0] at hj'; simp at hj'
      · exact h0
    have hm : j % z.cells.size<z.cells.size:=Nat.mod_lt _ hpos
    rw [getElem!_pos z.cells _ hm]
    exact hz1 _ (by simp)
  have hst:=run_storeCells_at P g off te (Builtin.zeroCells z.cells n).toList 0 cur w hg (by rw [hsz]; simpa using hfit) h1
  have hrun : (Builtin.clear_ #[t] o.type #[.slice (some ⟨g,off,none⟩) n c]).run P w = .ok (.tuple #[]) (w.setRow g (cur.toList.take (off+0) ++ (Builtin.zeroCells z.cells n).toList ++ cur.toList.drop (off+0+(Builtin.zeroCells z.cells n).toList.length)).toArray):=by
    match n,hn0,hst with
    | n+1,_,hst=>simp [Builtin.clear_,run_underlying hu,zeroValue,typeInfo,hi,hz,hst]
  unfold Oper.wp execOp
  simp only [ho,resolve,invoke,builtin,Sem.run_bind,Sem.run_pure,Result.andThen_ok,List.map_toArray,List.map_cons,List.map_nil,hx,hrun]
  refine hK _ _ (h _ _ (setRow_heap w g cur _ te _ hg) ?_ ?_ ⟨rfl,rfl,rfl,by simp [World.setRow],fun j _ hj=>?_⟩)
  · simp only [List.size_toArray,List.length_append,List.length_take,List.length_drop,hsz,Array.length_toList]; omega
  · simp only [List.toList_toArray,List.append_assoc,Nat.add_zero]
    rw [List.take_append_of_le_length (by rw [List.length_take,Array.length_toList]; omega),List.take_take,Nat.min_self]
  · simp only [World.setRow,Array.getElem?_modify]
    rw [if_neg (fun h=>hj (by rw [h]))]
end
structure DelI {α : Type} (p : α→Bool) (l m : List α) (i j : Nat) : Prop where
  len : m.length=l.length
  lt : i<j
  le : j≤l.length
  kept : m.take i=(l.take j).filter fun x=>!p x
  rest : ∀ t,j≤t→m[t]? = l[t]?
theorem DelI.start {α : Type} {p : α→Bool} {l : List α} {j : Nat} {x : α} (h1 : l[j]? = some x) (h2 : p x=true) (h3 : ∀ y ∈ l.take j,p y=false) : DelI p l l j (j+1):=by
  obtain ⟨hl,_⟩:=List.getElem?_eq_some_iff.1 h1
  refine ⟨rfl,by omega,by omega, ?_,fun _ _=>rfl⟩
  rw [List.take_add_one,h1,List.filter_append,List.filter_eq_self.2 (fun y hy=>by rw [h3 y hy]; rfl)]
  simp [h2]
theorem DelI.drop {α : Type} {p : α→Bool} {l m : List α} {i j : Nat} {x : α} (h : DelI p l m i j) (hx : l[j]? = some x) (hp : p x=true) : DelI p l m i (j+1):=by
  obtain ⟨hl,_⟩:=List.getElem?_eq_some_iff.1 hx
  refine ⟨h.len,by have:=h.lt; omega,by omega, ?_,fun t ht=>h.rest t (by omega)⟩
  rw [List.take_add_one,hx,List.filter_append,← h.kept]
  simp [hp]
theorem DelI.keep {α : Type} {p : α→Bool} {l m : List α} {i j : Nat} {x : α} (h : DelI p l m i j) (hx : l[j]? = some x) (hp : p x=false) : DelI p l (m.set i x) (i+1) (j+1):=by
  obtain ⟨hl,_⟩:=List.getElem?_eq_some_iff.1 hx
  have:=h.lt
  have:=h.len
  refine ⟨by rw [List.length_set]; exact h.len,by omega,by omega, ?_,fun t ht=>?_⟩
  · have e1 : l.take (j+1)=l.take j ++ [x]:=by rw [List.take_add_one,hx]; rfl
    have e2 : (m.set i x).take (i+1)=m.take i ++ [x]:=by
      rw [List.take_add_one,List.getElem?_set,if_pos rfl,if_pos (by omega),List.take_set_of_le (Nat.le_refl _)]
      rfl
    rw [e1,e2,List.filter_append,← h.kept]
    simp [hp]
  · rw [List.getElem?_set,if_neg (by omega)]
    exact h.rest t (by omega)
theorem grownD_refl {w : World} {row : Option Nat} : w.grownBy w row:=⟨rfl,rfl,rfl,Nat.le_refl _,fun _ _ _=>rfl⟩
theorem grownD_trans {w w1 w2 : World} {row : Option Nat} (h : w.grownBy w1 row) (h2 : w1.grownBy w2 row) : w.grownBy w2 row:=⟨h2.os.trans h.os,h2.tape.trans h.tape,h2.output.trans h.output,Nat.le_trans h.size h2.size,fun b hb hne=>(h2.block b (Nat.lt_of_lt_of_le hb h.size) hne).trans (h.block b hb hne)⟩
theorem grownD_of {w w1 : World} {row : Option Nat} (h : Below w.heap.size w w1) : w.grownBy w1 row:=⟨h.os,h.tape,h.output,h.size,fun b hb _=>h.block b hb⟩
theorem grownD_below {w w1 w2 : World} {row : Option Nat} (h : w.grownBy w1 row) (h2 : Below w1.heap.size w1 w2) : w.grownBy w2 row:=grownD_trans h (grownD_of h2)
theorem grownD_set {w w1 : World} {g i : Nat} {u : Value} (h : w.grownBy w1 (some g)) : w.grownBy (w1.setCell ⟨g,i,none⟩ u) (some g):=by
  have h2:=(Below.refl (Nat.min g w1.heap.size) w1).setCell (p:=⟨g,i,none⟩) (Nat.min_le_left _ _) u
  exact ⟨h2.os.trans h.os,h2.tape.trans h.tape,h2.output.trans h.output,Nat.le_trans h.size h2.size,fun b hb hne=>(Below.heap_setCell w1 ⟨g,i,none⟩ u b (fun (e : b=g)=>hne (by rw [e]))).trans (h.block b hb hne)⟩
theorem below_of_grown {w w1 : World} {row : Option Nat} {B : Nat} (h : w.grownBy w1 row) (hB : B≤w.heap.size) (hr : ∀ m,row=some m→B≤m) : Below B w w1:=⟨h.os,h.tape,h.output,h.size,fun b hb=>h.block b (Nat.lt_of_lt_of_le hb hB) (fun e=>by have:=hr b e.symm; omega)⟩
theorem putC_list (vs : List Value) : ∀ (A X B : List Value) (w : World) (g : Nat) (t : TypeId) (cur : Array Value),Blk w g t cur→cur.toList=A ++ X ++ B→X.length=vs.length→∃ cur' : Array Value,Blk (w.setCells g A.length vs) g t cur'∧cur'.toList=A ++ vs ++ B:=by
  induction vs with
  | nil =>
    intro A X B w g t cur hb hc hx
    have : X=[]:=List.eq_nil_of_length_eq_zero hx
    subst this
    exact ⟨cur,hb,hc⟩
  | cons v r ih =>
    intro A X B w g t cur hb hc hx
    rcases X with _ | ⟨x,X⟩
    · simp at hx
    · rw [World.setCells]
      have h1 : (cur.setIfInBounds A.length v).toList=(A ++ [v]) ++ X ++ B:=by
        rw [Array.toList_setIfInBounds,hc,List.append_assoc,List.set_append_right _ _ (Nat.le_refl _),Nat.sub_self]
        simp
      have h2:=ih (A ++ [v]) X B _ g t _ (hb.set_ A.length v) h1 (by simpa using hx)
      rw [List.length_append] at h2
      obtain ⟨c2,h3,h4⟩:=h2
      exact ⟨c2,h3,by rw [h4]; simp⟩
theorem grownD_cells (vs : List Value) : ∀ (o : Nat) (w w1 : World) (g : Nat),w.grownBy w1 (some g)→w.grownBy (w1.setCells g o vs) (some g):=by
  induction vs with
  | nil=>intro o w w1 g h; exact h
  | cons v r ih=>intro o w w1 g h; exact ih _ _ _ _ (grownD_set h)
theorem Own.setRow {α : Type} {base k : Nat} {e : TypeId} {enc : α→List Value} {w : World} {g c : Nat} {l : List α} (hk : ∀ x,(enc x).length=k) (h : Own base e k enc w ⟨some ⟨g,0,none⟩,c,l⟩) {i : Nat} (hi : i<l.length) (y : α) : Own base e k enc (w.setCells g (i * k) (enc y)) ⟨some ⟨g,0,none⟩,c,l.set i y⟩:=by
  obtain ⟨cur,hB,hcs,htk,hlc,hcm,hbg⟩:=h.blk rfl
  simp only at hcs htk hlc hcm
  have hl : l=l.take i ++ l[i] :: l.drop (i+1):=by rw [← List.drop_eq_getElem_cons hi,List.take_append_drop]
  have hcur : cur.toList=(l.take i).flatMap enc ++ enc l[i] ++ ((l.drop (i+1)).flatMap enc ++ cur.toList.drop (l.length * k)):=by
    conv=>lhs; rw [← List.take_append_drop (l.length * k) cur.toList,htk]
    conv=>lhs; rw [hl]
    simp only [List.flatMap_append,List.flatMap_cons,List.append_assoc]
    rw [← hl]
  have hal : ((l.take i).flatMap enc).length=i * k:=by rw [flat_len hk,List.length_take,Nat.min_eq_left (by omega)]
  obtain ⟨cur',hB',hc'⟩:=putC_list (enc y) _ _ _ w g e cur hB hcur (by rw [hk,hk])
  rw [hal] at hB'
  have hs : l.set i y=l.take i ++ y :: l.drop (i+1):=by rw [List.set_eq_take_append_cons_drop,if_pos hi]
  have hfl : (l.set i y).flatMap enc=(l.take i).flatMap enc ++ enc y ++ (l.drop (i+1)).flatMap enc:=by rw [hs]; simp
  refine Own.of_blk hk hB' ?_ ?_ (by rw [List.length_set]; exact hlc) hcm hbg
  · have h1:=congrArg List.length hc'
    have h2:=congrArg List.length hcur
    simp only [List.length_append,Array.length_toList,hk] at h1 h2
    omega
  · have h3 : cur'.toList=(l.set i y).flatMap enc ++ cur.toList.drop (l.length * k):=by rw [hc',hfl]; simp only [List.append_assoc]
    have h4 : ((l.set i y).flatMap enc).length=(l.set i y).length * k:=flat_len hk _
    rw [h3,List.take_append_of_le_length (by omega),List.take_of_length_le (by omega)]
theorem Own.range {α : Type} {base k : Nat} {e : TypeId} {enc : α→List Value} {w : World} {g c : Nat} {l : List α} (hk : ∀ x,(enc x).length=k) (h : Own base e k enc w ⟨some ⟨g,0,none⟩,c,l⟩) {i : Nat} {x : α} (hx : l[i]? = some x) : w.rangeAt g (i * k) (enc x):=by
  obtain ⟨hi,he⟩:=List.getElem?_eq_some_iff.1 hx
  obtain ⟨b,o,hA,_,hcl⟩:=(h.rd hk).at1 hi
  injection hA with hA
  injection hA with h1 h2
  subst h1 h2
  intro j v hv
  simp only [he,Nat.zero_add] at hcl
  exact hcl j v hv
theorem Own.there {α : Type} {base k : Nat} {e : TypeId} {enc : α→List Value} {w : World} {g c : Nat} {l : List α} (hk : ∀ x,(enc x).length=k) (h : Own base e k enc w ⟨some ⟨g,0,none⟩,c,l⟩) {i : Nat} (hi : i<l.length) : w.there g (i * k) k:=fun j hj=>by
  have hr:=h.range hk (List.getElem?_eq_getElem hi) j ((enc l[i])[j]'(by rw [hk]; exact hj)) (List.getElem?_eq_getElem (by rw [hk]; exact hj))
  exact ⟨by rw [hr]; rfl,h.frozen rfl _⟩
end Go.Proofs.YtmomlipmpgcheaaGreatDoor
