/- copy and append-of-make at elements of several cells; what they leave is known by blocks. They hold without condition. -/
import Derived.Test.YtlbihfbeamlacaaHbxaa
import Derived.Lib.AppendZerosOnto
import Derived.Lib.Overlaps
import Derived.Laws.CopyRow
import Derived.Laws.Externs
set_option linter.unusedSimpArgs false
set_option linter.unusedVariables false
set_option maxRecDepth 100000
set_option maxHeartbeats 6400000
namespace Go.Proofs.Ytlbihfbeamlacaa
open Go.RowKit
section
variable {α : Type} {enc : α→List Value} {k : Nat}
theorem tl_len (cur : Array Value) : cur.toList.length=cur.size:=Array.length_toList
theorem flat_take (hk : ∀ x,(enc x).length=k) : ∀ (l : List α) (i : Nat),(l.flatMap enc).take (i * k)=(l.take i).flatMap enc
  | [],i=>by simp
  | x :: l,0=>by simp
  | x :: l,i+1=>by
    rw [List.flatMap_cons,List.take_succ_cons,List.flatMap_cons,← flat_take hk l i,List.take_append,hk,Nat.add_mul,List.take_of_length_le (by rw [hk]; omega)]
    congr 2
    omega
theorem flat_drop (hk : ∀ x,(enc x).length=k) : ∀ (l : List α) (i : Nat),(l.flatMap enc).drop (i * k)=(l.drop i).flatMap enc
  | [],i=>by simp
  | x :: l,0=>by simp
  | x :: l,i+1=>by
    rw [List.flatMap_cons,List.drop_succ_cons,← flat_drop hk l i,List.drop_append,hk,Nat.add_mul,List.drop_eq_nil_of_le (by rw [hk]; omega),List.nil_append]
    congr 1
    omega
theorem ins_room (hk : ∀ x,(enc x).length=k) {cur : List Value} {l : List α} {i : Nat} {x : α} (hcur : cur.take (l.length * k)=l.flatMap enc) (hi : i≤l.length) (hc : (l.length+1) * k≤cur.length)
    {cur1 cur2 : List Value} (h1 : cur1=cur.take ((i+1) * k) ++ (l.drop i).flatMap enc ++ cur.drop ((i+1) * k+((l.drop i).flatMap enc).length)) (h2 : cur2=cur1.take (i * k) ++ enc x ++ cur1.drop (i * k+(enc x).length)) :
    cur1.length=cur.length∧cur2.length=cur.length∧cur2.take ((l.length+1) * k)=(l.take i ++ x :: l.drop i).flatMap enc:=by
  have e1 : ((l.drop i).flatMap enc).length=(l.length - i) * k:=by rw [flat_len hk,List.length_drop]
  have e2 : (i+1) * k+(l.length - i) * k=(l.length+1) * k:=by rw [← Nat.add_mul]; congr 1; omega
  have e3 : (i+1) * k=i * k+k:=by rw [Nat.add_mul]; omega
  have e4 : i * k≤l.length * k:=Nat.mul_le_mul_right _ hi
  have e5 : (l.length+1) * k=l.length * k+k:=by rw [Nat.add_mul]; omega
  have e6 : (i+1) * k≤(l.length+1) * k:=Nat.mul_le_mul_right _ (by omega)
  have t1 : (cur.take ((i+1) * k)).length=i * k+k:=by rw [List.length_take]; omega
  have hl1 : cur1.length=cur.length:=by rw [h1]; simp only [List.length_append,t1,e1,List.length_drop]; omega
  have c1 : cur1.take (i * k)=(l.take i).flatMap enc:=by
    rw [h1,List.append_assoc,List.take_append_of_le_length (by omega),List.take_take,Nat.min_eq_left (by omega),← flat_take hk,← hcur,List.take_take,Nat.min_eq_left e4]
  have c2 : cur1.drop (i * k+(enc x).length)=(l.drop i).flatMap enc ++ cur.drop ((i+1) * k+((l.drop i).flatMap enc).length):=by
    rw [h1,List.append_assoc,List.drop_append,t1,hk,Nat.sub_self,List.drop_zero,List.drop_eq_nil_of_le (by omega),List.nil_append]
  have hl : ((l.take i).flatMap enc).length=i * k:=by rw [flat_len hk,List.length_take,Nat.min_eq_left hi]
  refine ⟨hl1, ?_, ?_⟩
  · rw [h2,c1,c2]
    simp only [List.length_append,hl,hk,e1,List.length_drop]
    omega
  · rw [h2,c1,c2,List.flatMap_append,List.flatMap_cons,← List.append_assoc,← List.append_assoc]
    rw [List.take_append_of_le_length (by simp only [List.length_append,hl,hk,e1]; omega)]
    rw [List.take_of_length_le (by simp only [List.length_append,hl,hk,e1]; omega)]
theorem ins_grow (hk : ∀ x,(enc x).length=k) {cur : List Value} {l : List α} {i : Nat} {x : α} (hcur : cur.take (i * k)=(l.take i).flatMap enc) (hi : i≤l.length) (hc : (l.length+1) * k≤cur.length)
    {cur1 cur2 : List Value} (h1 : cur1=cur.take (i * k) ++ enc x ++ cur.drop (i * k+(enc x).length)) (h2 : cur2=cur1.take ((i+1) * k) ++ (l.drop i).flatMap enc ++ cur1.drop ((i+1) * k+((l.drop i).flatMap enc).length)) :
    cur1.length=cur.length∧cur2.length=cur.length∧cur2.take ((l.length+1) * k)=(l.take i ++ x :: l.drop i).flatMap enc:=by
  have e1 : ((l.drop i).flatMap enc).length=(l.length - i) * k:=by rw [flat_len hk,List.length_drop]
  have e2 : (i+1) * k+(l.length - i) * k=(l.length+1) * k:=by rw [← Nat.add_mul]; congr 1; omega
  have e3 : (i+1) * k=i * k+k:=by rw [Nat.add_mul]; omega
  have e6 : (i+1) * k≤(l.length+1) * k:=Nat.mul_le_mul_right _ (by omega)
  have hl : ((l.take i).flatMap enc).length=i * k:=by rw [flat_len hk,List.length_take,Nat.min_eq_left hi]
  rw [hcur] at h1
  have hl1 : cur1.length=cur.length:=by rw [h1]; simp only [List.length_append,hl,hk,List.length_drop]; omega
  have c1 : cur1.take ((i+1) * k)=(l.take i).flatMap enc ++ enc x:=by
    rw [h1,List.take_append_of_le_length (by simp only [List.length_append,hl,hk]; omega),List.take_of_length_le (by simp only [List.length_append,hl,hk]; omega)]
  rw [c1] at h2
  refine ⟨hl1, ?_, ?_⟩
  · rw [h2]; simp only [List.length_append,hl,hk,e1,List.length_drop]; omega
  · rw [h2,List.take_append_of_le_length (by simp only [List.length_append,hl,hk,e1]; omega),List.take_of_length_le (by simp only [List.length_append,hl,hk,e1]; omega)]
    simp [List.append_assoc]
end
section
variable {P : Program}
theorem run_copy_k (w : World) {dT sT ty e : TypeId} {z : Value} {size bytes : Nat} (hu : P.underlying dT=some (.slice e)) (hI : Info P e z size bytes) (g o dLen dCap : Nat) (a : Addr) (sLen sCap : Nat) (cur : Array Value) (t : TypeId) (cs : List Value)
    (m : Nat) (hmin : Nat.min sLen dLen=m) (hg : Blk w g t cur) (hn : cs.length=m * size) (hsrc : ∀ j v,cs[j]? = some v→w.cell? (a.add j)=some v) (hfit : o+cs.length≤cur.size) (h1 : ∀ v ∈ cs,v.oneCell'=true) :
    ∃ w',(Builtin.copy_ #[dT,sT] ty #[.slice (some ⟨g,o,none⟩) dLen dCap,.slice (some a) sLen sCap]).run P w = .ok (goInt m) w' ∧
      Blk w' g t (cur.toList.take o ++ cs ++ cur.toList.drop (o+cs.length)).toArray∧w.grownBy w' (some g):=by
  subst hmin
  obtain ⟨i,hi,hz,hsize,hby,hzs⟩:=hI
  have hl:=run_loadCells_list (P:=P) w a cs hsrc
  have hst:=run_storeCells_at P g o t cs 0 cur w hg (by simpa using hfit) h1
  refine ⟨_, ?_,setRow_heap w g cur _ t _ hg, ?_⟩
  · simp [Builtin.copy_,run_underlying hu,Builtin.lenOf,Builtin.firstCells,sizeOf,typeInfo,hi,hsize,← hn,hl,hst]
  · refine ⟨rfl,rfl,rfl,by simp [World.setRow],fun j _ hj=>?_⟩
    simp only [World.setRow,Array.getElem?_modify]
    rw [if_neg (fun h=>hj (by rw [h]))]
theorem wp_copy_k {w : World} {o : Oper} {a : Act} {K : Act→World→Prop} {Q : Exit→Act→World→Prop} (x y : Operand) (dT sT : TypeId)
    (ho : o.op = .call { callee:=.builtin .copy,args:=#[x,y],argTypes:=#[dT,sT] }) {e : TypeId} {z : Value} {size bytes : Nat} (hu : P.underlying dT=some (.slice e)) (hI : Info P e z size bytes) (g off dLen dCap : Nat) (b so sLen sCap : Nat) (cur : Array Value) (t : TypeId) (cs : List Value)
    (hx : a.eval x = .slice (some ⟨g,off,none⟩) dLen dCap) (hy : a.eval y = .slice (some ⟨b,so,none⟩) sLen sCap)
    (m : Nat) (hmin : Nat.min sLen dLen=m) (hg : Blk w g t cur) (hn : cs.length=m * size) (hsrc : Cells w b so cs) (hfit : off+cs.length≤cur.size) (h1 : ∀ v ∈ cs,v.oneCell'=true)
    (h : ∀ w',Blk w' g t (cur.toList.take off ++ cs ++ cur.toList.drop (off+cs.length)).toArray→w.grownBy w' (some g)→K (a.put o.dst (goInt m)) w') : o.wp P a w K Q:=by
  obtain ⟨w',hrun,h2,h3⟩:=run_copy_k (P:=P) (sT:=sT) (ty:=o.type) w hu hI g off dLen dCap ⟨b,so,none⟩ sLen sCap cur t cs m hmin hg hn (fun j v hv=>by
    have:=hsrc j v hv
    unfold Addr.add
    split
    · rename_i h0; subst h0; exact this
    · exact this) hfit h1
  unfold Oper.wp execOp
  simp only [ho,resolve,invoke,builtin,Sem.run_bind,Sem.run_pure,Result.andThen_ok,List.map_toArray,List.map_cons,List.map_nil,hx,hy,hrun]
  exact h w' h2 h3
theorem wpl_copy_k {w : World} {ops : Array Oper} {rest : List Oper} {o : Oper} {a : Act} {Q : Exit→Act→World→Prop} (hgd : o.guard=none) (x y : Operand) (dT sT : TypeId)
    (ho : o.op = .call { callee:=.builtin .copy,args:=#[x,y],argTypes:=#[dT,sT] }) {e : TypeId} {z : Value} {size bytes : Nat} (hu : P.underlying dT=some (.slice e)) (hI : Info P e z size bytes) (g off dLen dCap : Nat) (b so sLen sCap : Nat) (cur : Array Value) (t : TypeId) (cs : List Value)
    (hx : a.eval x = .slice (some ⟨g,off,none⟩) dLen dCap) (hy : a.eval y = .slice (some ⟨b,so,none⟩) sLen sCap)
    (m : Nat) (hmin : Nat.min sLen dLen=m) (hg : Blk w g t cur) (hn : cs.length=m * size) (hsrc : Cells w b so cs) (hfit : off+cs.length≤cur.size) (h1 : ∀ v ∈ cs,v.oneCell'=true)
    (h : ∀ w',Blk w' g t (cur.toList.take off ++ cs ++ cur.toList.drop (off+cs.length)).toArray→w.grownBy w' (some g)→wpList P ops Q rest (a.put o.dst (goInt m)) w') : wpList P ops Q (o :: rest) a w :=
  wpList_plain hgd fun _ hK=>wp_copy_k x y dT sT ho hu hI g off dLen dCap b so sLen sCap cur t cs hx hy m hmin hg hn hsrc hfit h1 fun w' h2 h3=>hK _ _ (h w' h2 h3)
theorem step_copy_k {w : World} {ops : Array Oper} {o : Oper} {a : Act} {K : Act→World→Prop} {Q : Exit→Act→World→Prop} {E : Prop} (hgd : o.guard=none) (x y : Operand) (dT sT : TypeId)
    (ho : o.op = .call { callee:=.builtin .copy,args:=#[x,y],argTypes:=#[dT,sT] }) {e : TypeId} {z : Value} {size bytes : Nat} (hu : P.underlying dT=some (.slice e)) (hI : Info P e z size bytes) (g off dLen dCap : Nat) (b so sLen sCap : Nat) (cur : Array Value) (t : TypeId) (cs : List Value)
    (hx : a.eval x = .slice (some ⟨g,off,none⟩) dLen dCap) (hy : a.eval y = .slice (some ⟨b,so,none⟩) sLen sCap)
    (m : Nat) (hmin : Nat.min sLen dLen=m) (hg : Blk w g t cur) (hn : cs.length=m * size) (hsrc : Cells w b so cs) (hfit : off+cs.length≤cur.size) (h1 : ∀ v ∈ cs,v.oneCell'=true)
    (h : ∀ w',Blk w' g t (cur.toList.take off ++ cs ++ cur.toList.drop (off+cs.length)).toArray→w.grownBy w' (some g)→K (a.put o.dst (goInt m)) w') :
    if Region.wanted o (yielded ops a.tmps)=true then Oper.wp P o a w K Q else E:=by
  have hw : Region.wanted o (yielded ops a.tmps)=true:=by simp [Region.wanted,hgd]
  rw [if_pos hw]
  exact wp_copy_k x y dT sT ho hu hI g off dLen dCap b so sLen sCap cur t cs hx hy m hmin hg hn hsrc hfit h1 h
/-- append where there is room, of cells of whatever block. -/
theorem wp_append_room_k {w : World} {o : Oper} {a : Act} {K : Act→World→Prop} {Q : Exit→Act→World→Prop} (x y : Operand) (t : TypeId)
    (ho : o.op = .call { callee:=.builtin .append,args:=#[x,y],argTypes:=#[t,t] }) {e : TypeId} {z : Value} {size bytes : Nat} (hu : P.underlying t=some (.slice e)) (hI : Info P e z size bytes) (g i c : Nat) (A : Option Addr) (m sCap n : Nat) (hnm : i+m=n) (cur : Array Value) (te : TypeId) (cs : List Value)
    (hx : a.eval x = .slice (some ⟨g,0,none⟩) i c) (hy : a.eval y = .slice A m sCap) (hA : 0<m→∃ b so,A=some ⟨b,so,none⟩∧Cells w b so cs) (hA0 : A≠none)
    (hg : Blk w g te cur) (hn : cs.length=m * size) (hroom : n≤c) (hfit : i * size+cs.length≤cur.size) (h1 : ∀ v ∈ cs,v.oneCell'=true)
    (h : ∀ w',Blk w' g te (cur.toList.take (i * size) ++ cs ++ cur.toList.drop (i * size+cs.length)).toArray→w.grownBy w' (some g)→K (a.put o.dst (.slice (some ⟨g,0,none⟩) n c)) w') : o.wp P a w K Q:=by
  subst hnm
  obtain ⟨inf,hi,hz,hsize,hby,hzs⟩:=hI
  obtain ⟨ad,rfl⟩ : ∃ ad,A=some ad:=by cases A with
    | none=>exact absurd rfl hA0
    | some ad=>exact ⟨ad,rfl⟩
  have hl : (loadCells ad (m * size)).run P w = .ok cs.toArray w:=by
    rw [← hn]
    refine run_loadCells_list (P:=P) w ad cs (fun j v hv=>?_)
    rcases Nat.eq_zero_or_pos m with h0 | h0
    · subst h0
      have : cs=[]:=List.eq_nil_of_length_eq_zero (by simpa using hn)
      subst this
      simp at hv
    · obtain ⟨b,so,hb,hc⟩:=hA h0
      injection hb with hb
      subst hb
      have:=hc j v hv
      unfold Addr.add
      split
      · rename_i h0; subst h0; exact this
      · exact this
  have hst:=run_storeCells_at P g (i * size) te cs 0 cur w hg (by simpa using hfit) h1
  have hadd : (⟨g,0,none⟩ : Addr).add (i * size)=⟨g,i * size,none⟩:=by
    unfold Addr.add
    split
    · rename_i h0; rw [h0]
    · simp
  have hrun : (Builtin.append_ #[t,t] o.type #[.slice (some ⟨g,0,none⟩) i c,.slice (some ad) m sCap]).run P w = .ok (.slice (some ⟨g,0,none⟩) (i+m) c) (w.setRow g (cur.toList.take (i * size) ++ cs ++ cur.toList.drop (i * size+cs.length)).toArray):=by
    simp [Builtin.append_,run_underlying hu,Builtin.lenOf,Builtin.firstCells,sizeOf,typeInfo,hi,hsize,hroom,hl,hadd,hst]
  unfold Oper.wp execOp
  simp only [ho,resolve,invoke,builtin,Sem.run_bind,Sem.run_pure,Result.andThen_ok,List.map_toArray,List.map_cons,List.map_nil,hx,hy,hrun]
  refine h _ (setRow_heap w g cur _ te _ hg) ⟨rfl,rfl,rfl,by simp [World.setRow],fun j _ hj=>?_⟩
  simp only [World.setRow,Array.getElem?_modify]
  rw [if_neg (fun h=>hj (by rw [h]))]
theorem step_append_room_k {w : World} {ops : Array Oper} {o : Oper} {a : Act} {K : Act→World→Prop} {Q : Exit→Act→World→Prop} {E : Prop} (hgd : o.guard=none) (x y : Operand) (t : TypeId)
    (ho : o.op = .call { callee:=.builtin .append,args:=#[x,y],argTypes:=#[t,t] }) {e : TypeId} {z : Value} {size bytes : Nat} (hu : P.underlying t=some (.slice e)) (hI : Info P e z size bytes) (g i c : Nat) (A : Option Addr) (m sCap n : Nat) (hnm : i+m=n) (cur : Array Value) (te : TypeId) (cs : List Value)
    (hx : a.eval x = .slice (some ⟨g,0,none⟩) i c) (hy : a.eval y = .slice A m sCap) (hA : 0<m→∃ b so,A=some ⟨b,so,none⟩∧Cells w b so cs) (hA0 : A≠none)
    (hg : Blk w g te cur) (hn : cs.length=m * size) (hroom : n≤c) (hfit : i * size+cs.length≤cur.size) (h1 : ∀ v ∈ cs,v.oneCell'=true)
    (h : ∀ w',Blk w' g te (cur.toList.take (i * size) ++ cs ++ cur.toList.drop (i * size+cs.length)).toArray→w.grownBy w' (some g)→K (a.put o.dst (.slice (some ⟨g,0,none⟩) n c)) w') :
    if Region.wanted o (yielded ops a.tmps)=true then Oper.wp P o a w K Q else E:=by
  have hw : Region.wanted o (yielded ops a.tmps)=true:=by simp [Region.wanted,hgd]
  rw [if_pos hw]
  exact wp_append_room_k x y t ho hu hI g i c A m sCap n hnm cur te cs hx hy hA hA0 hg hn hroom hfit h1 h
/-- clear of the last elements of a row. -/
theorem wpl_clear_k {w : World} {ops : Array Oper} {rest : List Oper} {o : Oper} {a : Act} {Q : Exit→Act→World→Prop} (hgd : o.guard=none) (x : Operand) (t : TypeId)
    (ho : o.op = .call { callee:=.builtin .clear,args:=#[x],argTypes:=#[t] }) {e : TypeId} {z : Value} {size bytes : Nat} (hu : P.underlying t=some (.slice e)) (hI : Info P e z size bytes) (hz1 : ∀ v ∈ z.cells.toList,v.oneCell'=true) (g off n c : Nat) (hn0 : 0<n) (cur : Array Value) (te : TypeId)
    (hx : a.eval x = .slice (some ⟨g,off,none⟩) n c) (hg : Blk w g te cur) (hfit : off+n * size≤cur.size)
    (h : ∀ w' cur',Blk w' g te cur'→cur'.size=cur.size→cur'.toList.take off=cur.toList.take off→w.grownBy w' (some g)→wpList P ops Q rest (a.put o.dst (.tuple #[])) w') : wpList P ops Q (o :: rest) a w:=by
  refine wpList_plain hgd fun _ hK=>?_
  obtain ⟨inf,hi,hz,hsize,hby,hzs⟩:=hI
  have hsz : (Builtin.zeroCells z.cells n).toList.length=n * size:=by rw [Array.length_toList,size_zeroCells,hzs]
  have h1 : ∀ v ∈ (Builtin.zeroCells z.cells n).toList,v.oneCell'=true:=by
    intro v hv
    simp only [Builtin.zeroCells,Array.toList_map,List.mem_map] at hv
    obtain ⟨j,hj,rfl⟩:=hv
    have hj' : j<n * z.cells.size:=by simpa using hj
    have hpos : 0<z.cells.size:=by
      rcases Nat.eq_zero_or_pos z.cells.size with h0 | h0
      · rw [h0] at hj'; simp at hj'
      · exact h0
    have hm : j % z.cells.size<z.cells.size:=Nat.mod_lt _ hpos
    rw [getElem!_pos z.cells _ hm]
    exact hz1 _ (by simp)
  have hst:=run_storeCells_at P g off te (Builtin.zeroCells z.cells n).toList 0 cur w hg (by rw [hsz]; simpa using hfit) h1
  have hrun : (Builtin.clear_ #[t] o.type #[.slice (some ⟨g,off,none⟩) n c]).run P w = .ok (.tuple #[]) (w.setRow g (cur.toList.take (off+0) ++ (Builtin.zeroCells z.cells n).toList ++ cur.toList.drop (off+0+(Builtin.zeroCells z.cells n).toList.length)).toArray):=by
    match n,hn0,hst with
    | n+1,_,hst=>simp [Builtin.clear_,run_underlying hu,zeroValue,typeInfo,hi,hz,hst]
  unfold Oper.wp execOp
  simp only [ho,resolve,invoke,builtin,Sem.run_bind,Sem.run_pure,Result.andThen_ok,List.map_toArray,List.map_cons,List.map_nil,hx,hrun]
  refine hK _ _ (h _ _ (setRow_heap w g cur _ te _ hg) ?_ ?_ ⟨rfl,rfl,rfl,by simp [World.setRow],fun j _ hj=>?_⟩)
  · simp only [List.size_toArray,List.length_append,List.length_take,List.length_drop,hsz,Array.length_toList]; omega
  · simp only [List.toList_toArray,List.append_assoc,Nat.add_zero]
    rw [List.take_append_of_le_length (by rw [List.length_take,Array.length_toList]; omega),List.take_take,Nat.min_self]
  · simp only [World.setRow,Array.getElem?_modify]
    rw [if_neg (fun h=>hj (by rw [h]))]
/-- 'append(s[:i], make(S, m)...)' without room: a new row. -/
theorem wp_append_zeros {w : World} {o : Oper} {a : Act} {K : Act→World→Prop} {Q : Exit→Act→World→Prop} (x y : Operand) (t tn : TypeId)
    (ho : o.op = .call { callee:=.builtin .append,args:=#[x,y],argTypes:=#[t,tn] }) {e : TypeId} {z : Value} {size bytes : Nat} (ht : P.underlying t=some (.slice e)) (htn : P.underlying tn=some (.int .i64)) (hI : Info P e z size bytes) (hs0 : 0<size)
    (b so i c m n : Nat) (hnm : i+m=n) (olds : List Value) (hx : a.eval x = .slice (some ⟨b,so,none⟩) i c) (hy : a.eval y = .int .i64 (m : Int)) (hol : olds.length=i * size) (hold : Cells w b so olds) (h0 : 0<m) (hg : c<i+m)
    (h63 : ((i+m : Nat) : Int)≤9223372036854775807) (h48 : m * bytes≤281474976710656) (hfit : Builtin.nextslicecap (i+m) c * bytes≤281474976710656)
    (h : ∀ w' G cur,n≤G→G≤maxLen→cur.size=G * size→cur.toList.take (i * size)=olds→Blk w' w.heap.size e cur→w.grownBy w' none→w.heap.size<w'.heap.size→K (a.put o.dst (.slice (some ⟨w.heap.size,0,none⟩) n G)) w') : o.wp P a w K Q:=by
  subst hnm
  obtain ⟨inf,hi,hz,hsize,hby,hzs⟩:=hI
  subst hsize
  subst hby
  have hfc : (Builtin.firstCells inf.size i (.slice (some ⟨b,so,none⟩) i c)).run P w.drew = .ok olds.toArray w.drew:=by
    simp only [Builtin.firstCells]
    rw [← hol]
    exact run_loadCells_list (P:=P) w.drew ⟨b,so,none⟩ olds (fun j v hv=>by
      have:=hold j v hv
      unfold Addr.add
      split
      · rename_i h0; subst h0; exact this
      · exact this)
  have hrun:=Lib.run_append_grow_zeros (P:=P) w t tn o.type e inf z .i64 .i64 ht htn hi hz (some ⟨b,so,none⟩) i c olds hfc m h0 hs0 hg h63 h48 hfit
  have hge:=grownCap_ge w (i+m) c e
  have hle:=grownCap_le_maxLen w (i+m) c e (by unfold maxLen; omega)
  generalize hGd : grownCap w (i+m) c e=G at *
  unfold Oper.wp execOp
  simp only [ho,resolve,invoke,builtin,Sem.run_bind,Sem.run_pure,Result.andThen_ok,List.map_toArray,List.map_cons,List.map_nil,hx,hy,hrun]
  refine h _ G _ hge hle ?_ ?_ (Blk.new w.drew e _) ⟨rfl,rfl,rfl,by simp,fun j hj _=>Below.heap_alloc w.drew _ j hj⟩ (by simp)
  · simp only [Array.size_append,List.size_toArray,size_zeroCells,hol,hzs]
    rw [← Nat.add_mul,← Nat.add_mul]; congr 1; omega
  · simp only [Array.toList_append,List.append_assoc]
    rw [List.take_append_of_le_length (by omega),List.take_of_length_le (by omega)]
theorem wpl_append_zeros {w : World} {ops : Array Oper} {rest : List Oper} {o : Oper} {a : Act} {Q : Exit→Act→World→Prop} (hgd : o.guard=none) (x y : Operand) (t tn : TypeId)
    (ho : o.op = .call { callee:=.builtin .append,args:=#[x,y],argTypes:=#[t,tn] }) {e : TypeId} {z : Value} {size bytes : Nat} (ht : P.underlying t=some (.slice e)) (htn : P.underlying tn=some (.int .i64)) (hI : Info P e z size bytes) (hs0 : 0<size)
    (b so i c m n : Nat) (hnm : i+m=n) (olds : List Value) (hx : a.eval x = .slice (some ⟨b,so,none⟩) i c) (hy : a.eval y = .int .i64 (m : Int)) (hol : olds.length=i * size) (hold : Cells w b so olds) (h0 : 0<m) (hg : c<i+m)
    (h63 : ((i+m : Nat) : Int)≤9223372036854775807) (h48 : m * bytes≤281474976710656) (hfit : Builtin.nextslicecap (i+m) c * bytes≤281474976710656)
    (h : ∀ w' G cur,n≤G→G≤maxLen→cur.size=G * size→cur.toList.take (i * size)=olds→Blk w' w.heap.size e cur→w.grownBy w' none→w.heap.size<w'.heap.size→wpList P ops Q rest (a.put o.dst (.slice (some ⟨w.heap.size,0,none⟩) n G)) w') : wpList P ops Q (o :: rest) a w :=
  wpList_plain hgd fun _ hK=>wp_append_zeros x y t tn ho ht htn hI hs0 b so i c m n hnm olds hx hy hol hold h0 hg h63 h48 hfit fun w' G cur h1 h2 h3 h4 h5 h6 h7=>hK _ _ (h w' G cur h1 h2 h3 h4 h5 h6 h7)
end
section
variable {α : Type} {base : Nat} {e : TypeId} {k : Nat} {enc : α→List Value} {w w' : World} {s : Sl α}
theorem Own.blk {g : Nat} (h : Own base e k enc w s) (hA : s.A=some ⟨g,0,none⟩) : ∃ cur : Array Value,Blk w g e cur∧cur.size=s.c * k∧cur.toList.take (s.l.length * k)=s.l.flatMap enc∧s.l.length≤s.c∧s.c≤maxLen∧base≤g:=by
  rcases h.2 with ⟨hv,_⟩ | ⟨g',cap,cur,hv,hb,hh,hnc,hcm,hcs,htk⟩
  · rw [hA] at hv; cases hv
  · rw [hA] at hv
    injection hv with h1 h2 h3
    injection h1 with h1
    injection h1 with h1
    subst h1; subst h3
    exact ⟨cur,hh,hcs,htk,hnc,hcm,hb⟩
theorem Own.of_blk {g c : Nat} {l : List α} {cur : Array Value} (hk : ∀ x,(enc x).length=k) (h : Blk w g e cur) (hs : cur.size=c * k) (ht : cur.toList.take (l.length * k)=l.flatMap enc) (hl : l.length≤c) (hc : c≤maxLen) (hb : base≤g) :
    Own base e k enc w ⟨some ⟨g,0,none⟩,c,l⟩ :=
  ⟨flat_len hk l,.inr ⟨g,c,cur,rfl,hb,h,hl,hc,hs,ht⟩⟩
theorem Blk.flat {g : Nat} {cur : Array Value} (hk : ∀ x,(enc x).length=k) (h : Blk w g e cur) {l : List α} (ht : cur.toList.take (l.length * k)=l.flatMap enc) (i : Nat) : Cells w g (i * k) ((l.drop i).flatMap enc):=by
  intro j u hu
  rw [h.cell]
  rw [← flat_drop hk,List.getElem?_drop,← ht,List.getElem?_take] at hu
  split at hu
  · simpa using hu
  · cases hu
theorem Blk.flat_take {g : Nat} {cur : Array Value} (hk : ∀ x,(enc x).length=k) (h : Blk w g e cur) {l : List α} (ht : cur.toList.take (l.length * k)=l.flatMap enc) (i : Nat) : Cells w g 0 ((l.take i).flatMap enc):=by
  intro j u hu
  rw [h.cell,Nat.zero_add]
  rw [← Go.Proofs.Ytlbihfbeamlacaa.flat_take hk,List.getElem?_take] at hu
  split at hu
  · rw [← ht,List.getElem?_take] at hu
    split at hu
    · simpa using hu
    · cases hu
  · cases hu
end
end Go.Proofs.Ytlbihfbeamlacaa
