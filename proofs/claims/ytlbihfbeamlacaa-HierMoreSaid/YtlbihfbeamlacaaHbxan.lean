/- The net in memory: its map, its rows of neighbours; what else stays as it is. -/
import Derived.Test.YtlbihfbeamlacaaHbxaj
import Derived.Test.YtlbihfbeamlacaaHbxam
set_option linter.unusedSimpArgs false
set_option linter.unusedVariables false
set_option maxRecDepth 100000
set_option maxHeartbeats 6400000
namespace Go.Proofs.Ytlbihfbeamlacaa
open Go.RowKit
def svA {α : Type} (ls : List (Sl α)) : Array Value:=(ls.map Sl.v).toArray
theorem svA_at {α : Type} {ls : List (Sl α)} {i : Nat} {s : Sl α} (h : ls[i]? = some s) : (svA ls)[i]? = some (.slice s.A s.l.length s.c):=by
  unfold svA; rw [List.getElem?_toArray,List.getElem?_map,h]; rfl
theorem svA_set {α : Type} {ls : List (Sl α)} {i : Nat} {s : Sl α} : (svA ls).setIfInBounds i (.slice s.A s.l.length s.c)=svA (ls.set i s):=by
  unfold svA
  rw [List.setIfInBounds_toArray,List.map_set]
  rfl
theorem own_row {α : Type} {B : Nat} {W : World} {e : TypeId} {k : Nat} {enc : α→List Value} {s : Sl α} (h : Own B e k enc W s) : ∀ n,(Value.slice s.A s.l.length s.c).ownBlock=some n→s.A=some ⟨n,0,none⟩∧B≤n∧n<W.heap.size:=by
  intro n hn
  rcases h.form with ⟨h0,_⟩ | ⟨g,h0,h1,h2,_⟩
  · rw [h0] at hn; simp [Value.ownBlock] at hn
  · rw [h0] at hn
    simp only [Value.ownBlock] at hn
    injection hn with hn
    subst hn
    exact ⟨h0,h1,h2⟩
/-- The net's memory. Z: blocks that it leaves as they are in w0. -/
structure NetM (n base g mb gi go : Nat) (Z : Nat→Prop) (w0 w : World) (l : List ED) (ins outs : List (Sl Int)) : Prop where
  bg : Blk w g 54 #[.map (some mb),.slice (some ⟨gi,0,none⟩) n n,.slice (some ⟨go,0,none⟩) n n]
  mp : MapE w mb l
  bi : Blk w gi 23 (svA ins)
  bo : Blk w go 23 (svA outs)
  fam : Fam base 3 1 ienc w (outs ++ ins)
  li : ins.length=n
  lo : outs.length=n
  lt : g<base∧mb<base∧gi<base∧go<base
  ne : g≠gi∧g≠go∧gi≠go
  bb : base≤w.heap.size
  bs : Below 0 w0 w
  zk : ∀ b,Z b→w.heap[b]? = w0.heap[b]?
  zf : ∀ s,s ∈ outs ++ ins→∀ b,s.A=some ⟨b,0,none⟩→¬ Z b
  z4 : ¬ Z g∧¬ Z mb∧¬ Z gi∧¬ Z go
  zl : ∀ b,Z b→b<w0.heap.size
section
variable {n base g mb gi go : Nat} {Z : Nat→Prop} {w0 w w' : World} {l l' : List ED} {ins outs : List (Sl Int)}
theorem NetM.below (h : NetM n base g mb gi go Z w0 w l ins outs) {B : Nat} (hB : ∀ b,b<B→Z b) : Below B w0 w:=⟨h.bs.os,h.bs.tape,h.bs.output,h.bs.size,fun b hb=>h.zk b (hB b hb)⟩
theorem NetM.mne (h : NetM n base g mb gi go Z w0 w l ins outs) : mb≠g∧mb≠gi∧mb≠go:=⟨mapE_ne h.mp h.bg,mapE_ne h.mp h.bi,mapE_ne h.mp h.bo⟩
theorem NetM.later (h : NetM n base g mb gi go Z w0 w l ins outs) (hb : Below w.heap.size w w') : NetM n base g mb gi go Z w0 w' l ins outs where
  bg:=h.bg.later hb
  mp:=h.mp.later hb
  bi:=h.bi.later hb
  bo:=h.bo.later hb
  fam:=h.fam.below hb
  li:=h.li
  lo:=h.lo
  lt:=h.lt
  ne:=h.ne
  bb:=Nat.le_trans h.bb hb.size
  bs:=h.bs.trans (hb.mono (Nat.zero_le _))
  zk:=fun b hz=>(hb.block b (Nat.lt_of_lt_of_le (h.zl b hz) h.bs.size)).trans (h.zk b hz)
  zf:=h.zf
  z4:=h.z4
  zl:=h.zl
/-- The net with another list of what it leaves alone: all that is there, but its own. -/
theorem NetM.reZ (h : NetM n base g mb gi go Z w0 w l ins outs) : NetM n base g mb gi go (fun b=>b<w.heap.size∧b≠g∧b≠mb∧b≠gi∧b≠go∧∀ s,s ∈ outs ++ ins→s.A≠some ⟨b,0,none⟩) w w l ins outs where
  bg:=h.bg
  mp:=h.mp
  bi:=h.bi
  bo:=h.bo
  fam:=h.fam
  li:=h.li
  lo:=h.lo
  lt:=h.lt
  ne:=h.ne
  bb:=h.bb
  bs:=Below.refl _ _
  zk:=fun _ _=>rfl
  zf:=fun s hs b hA hz=>hz.2.2.2.2.2 s hs hA
  z4:=⟨fun hz=>hz.2.1 rfl,fun hz=>hz.2.2.1 rfl,fun hz=>hz.2.2.2.1 rfl,fun hz=>hz.2.2.2.2.1 rfl⟩
  zl:=fun b hz=>hz.1
theorem NetM.sub (h : NetM n base g mb gi go Z w0 w l ins outs) : ∀ b,Z b→b<w.heap.size∧b≠g∧b≠mb∧b≠gi∧b≠go∧∀ s,s ∈ outs ++ ins→s.A≠some ⟨b,0,none⟩:=fun b hz =>
  ⟨Nat.lt_of_lt_of_le (h.zl b hz) h.bs.size,fun e=>h.z4.1 (e ▸ hz),fun e=>h.z4.2.1 (e ▸ hz),fun e=>h.z4.2.2.1 (e ▸ hz),fun e=>h.z4.2.2.2 (e ▸ hz),fun s hs hA=>h.zf s hs b hA hz⟩
/-- Back to the caller's list. -/
theorem NetM.back {Z' : Nat→Prop} {l' : List ED} {ins' outs' : List (Sl Int)} (h : NetM n base g mb gi go Z w0 w l ins outs) (h' : NetM n base g mb gi go Z' w w' l' ins' outs') (hz : ∀ b,Z b→Z' b) : NetM n base g mb gi go Z w0 w' l' ins' outs' where
  bg:=h'.bg
  mp:=h'.mp
  bi:=h'.bi
  bo:=h'.bo
  fam:=h'.fam
  li:=h'.li
  lo:=h'.lo
  lt:=h'.lt
  ne:=h'.ne
  bb:=h'.bb
  bs:=h.bs.trans h'.bs
  zk:=fun b hb=>(h'.zk b (hz b hb)).trans (h.zk b hb)
  zf:=fun s hs b hA hb=>h'.zf s hs b hA (hz b hb)
  z4:=h.z4
  zl:=h.zl
theorem NetM.mapped (h : NetM n base g mb gi go Z w0 w l ins outs) (hm : MapE w' mb l') (hg : w.grownBy w' (some mb)) : NetM n base g mb gi go Z w0 w' l' ins outs where
  bg:=h.bg.grown hg (fun e=>h.mne.1 (by injection e with e; exact e.symm))
  mp:=hm
  bi:=h.bi.grown hg (fun e=>h.mne.2.1 (by injection e with e; exact e.symm))
  bo:=h.bo.grown hg (fun e=>h.mne.2.2 (by injection e with e; exact e.symm))
  fam:=h.fam.grown hg h.lt.2.1
  li:=h.li
  lo:=h.lo
  lt:=h.lt
  ne:=h.ne
  bb:=Nat.le_trans h.bb hg.size
  bs:=h.bs.trans ⟨hg.os,hg.tape,hg.output,hg.size,fun b hb=>absurd hb (Nat.not_lt_zero _)⟩
  zk:=fun b hz=>(hg.block b (Nat.lt_of_lt_of_le (h.zl b hz) h.bs.size) (fun e=>h.z4.2.1 (by injection e with e; exact e ▸ hz))).trans (h.zk b hz)
  zf:=h.zf
  z4:=h.z4
  zl:=h.zl
theorem app_keep {row : Option Nat} {b : Nat} (hg : w.grownBy w' row) (hb : b<w.heap.size) (hr : ∀ m,row=some m→m≠b) : w'.heap[b]? = w.heap[b]?:=hg.block b hb (fun e=>hr b e.symm rfl)
/-- A neighbour is appended to a row of out, and the row is stored. -/
theorem NetM.out {u : Nat} {s : Sl Int} {A : Option Addr} {c : Nat} {l2 : List Int} (h : NetM n base g mb gi go Z w0 w l ins outs) (hs : outs[u]? = some s) (hown : Own base 3 1 ienc w' ⟨A,c,l2⟩) (hg : w.grownBy w' (Value.slice s.A s.l.length s.c).ownBlock)
    (hA : A=s.A∨A=some ⟨w.heap.size,0,none⟩) : NetM n base g mb gi go Z w0 (w'.setCell ⟨go,u,none⟩ (.slice A l2.length c)) l ins (outs.set u ⟨A,c,l2⟩):=by
  have hsl : (outs ++ ins)[u]? = some s:=by rw [List.getElem?_append_left (List.getElem?_eq_some_iff.1 hs).1]; exact hs
  have hrow:=own_row (h.fam.own u s hsl)
  have hr : ∀ b,b<base→∀ m,(Value.slice s.A s.l.length s.c).ownBlock=some m→m≠b:=fun b hb m hm=>by have:=(hrow m hm).2.1; omega
  have hk : ∀ b,b<base→w'.heap[b]? = w.heap[b]?:=fun b hb=>app_keep hg (Nat.lt_of_lt_of_le hb h.bb) (hr b hb)
  have hset : (outs ++ ins).set u ⟨A,c,l2⟩=outs.set u ⟨A,c,l2⟩ ++ ins:=by rw [List.set_append_left _ _ (List.getElem?_eq_some_iff.1 hs).1]
  have hfam:=h.fam.app hsl hown hg hA
  rw [hset] at hfam
  have hzr : ∀ b,Z b→∀ m,(Value.slice s.A s.l.length s.c).ownBlock=some m→m≠b:=fun b hz m hm hc=>h.zf s (List.mem_of_getElem? hsl) m (hrow m hm).1 (hc ▸ hz)
  exact {
    bg:=(show Blk w' g _ _ from (hk g h.lt.1).trans h.bg).far h.ne.2.1 _
    mp:=(h.mp.keep (hk mb h.lt.2.1)).far (p:=⟨go,u,none⟩) h.mne.2.2 _
    bi:=(show Blk w' gi _ _ from (hk gi h.lt.2.2.1).trans h.bi).far h.ne.2.2 _
    bo:=by
      have hbo:=(show Blk w' go _ _ from (hk go h.lt.2.2.2).trans h.bo).set_ u (.slice A l2.length c)
      rw [svA_set (s:=⟨A,c,l2⟩)] at hbo
      exact hbo
    fam:=hfam.far h.lt.2.2.2 _
    li:=h.li
    lo:=by rw [List.length_set]; exact h.lo
    lt:=h.lt
    ne:=h.ne
    bb:=Nat.le_trans h.bb (by simpa using hg.size)
    bs:=(h.bs.trans ⟨hg.os,hg.tape,hg.output,hg.size,fun b hb=>absurd hb (Nat.not_lt_zero _)⟩).setCell (Nat.zero_le _) _
    zk:=fun b hz=>(Below.heap_setCell w' ⟨go,u,none⟩ _ b (fun (e : b=go)=>h.z4.2.2.2 (e ▸ hz))).trans ((app_keep hg (Nat.lt_of_lt_of_le (h.zl b hz) h.bs.size) (hzr b hz)).trans (h.zk b hz))
    zf:=fun t ht b hb hz=>by
      rcases List.mem_append.1 ht with ht | ht
      · rcases List.mem_or_eq_of_mem_set ht with ht | rfl
        · exact h.zf t (List.mem_append_left _ ht) b hb hz
        · rcases hA with hA | hA
          · exact h.zf s (List.mem_of_getElem? hsl) b (hA.symm.trans hb) hz
          · rw [hA] at hb
            injection hb with hb
            injection hb with hb
            have:=Nat.lt_of_lt_of_le (h.zl b hz) h.bs.size
            omega
      · exact h.zf t (List.mem_append_right _ ht) b hb hz
    z4:=h.z4
    zl:=h.zl }
theorem NetM.in_ {u : Nat} {s : Sl Int} {A : Option Addr} {c : Nat} {l2 : List Int} (h : NetM n base g mb gi go Z w0 w l ins outs) (hs : ins[u]? = some s) (hown : Own base 3 1 ienc w' ⟨A,c,l2⟩) (hg : w.grownBy w' (Value.slice s.A s.l.length s.c).ownBlock)
    (hA : A=s.A∨A=some ⟨w.heap.size,0,none⟩) : NetM n base g mb gi go Z w0 (w'.setCell ⟨gi,u,none⟩ (.slice A l2.length c)) l (ins.set u ⟨A,c,l2⟩) outs:=by
  have hsl : (outs ++ ins)[outs.length+u]? = some s:=by rw [List.getElem?_append_right (Nat.le_add_right _ _),Nat.add_sub_cancel_left]; exact hs
  have hrow:=own_row (h.fam.own _ s hsl)
  have hr : ∀ b,b<base→∀ m,(Value.slice s.A s.l.length s.c).ownBlock=some m→m≠b:=fun b hb m hm=>by have:=(hrow m hm).2.1; omega
  have hk : ∀ b,b<base→w'.heap[b]? = w.heap[b]?:=fun b hb=>app_keep hg (Nat.lt_of_lt_of_le hb h.bb) (hr b hb)
  have hset : (outs ++ ins).set (outs.length+u) ⟨A,c,l2⟩=outs ++ ins.set u ⟨A,c,l2⟩:=by rw [List.set_append_right _ _ (Nat.le_add_right _ _),Nat.add_sub_cancel_left]
  have hfam:=h.fam.app hsl hown hg hA
  rw [hset] at hfam
  have hzr : ∀ b,Z b→∀ m,(Value.slice s.A s.l.length s.c).ownBlock=some m→m≠b:=fun b hz m hm hc=>h.zf s (List.mem_of_getElem? hsl) m (hrow m hm).1 (hc ▸ hz)
  exact {
    bg:=(show Blk w' g _ _ from (hk g h.lt.1).trans h.bg).far h.ne.1 _
    mp:=(h.mp.keep (hk mb h.lt.2.1)).far (p:=⟨gi,u,none⟩) h.mne.2.1 _
    bi:=by
      have hbi:=(show Blk w' gi _ _ from (hk gi h.lt.2.2.1).trans h.bi).set_ u (.slice A l2.length c)
      rw [svA_set (s:=⟨A,c,l2⟩)] at hbi
      exact hbi
    bo:=(show Blk w' go _ _ from (hk go h.lt.2.2.2).trans h.bo).far (Ne.symm h.ne.2.2) _
    fam:=hfam.far h.lt.2.2.1 _
    li:=by rw [List.length_set]; exact h.li
    lo:=h.lo
    lt:=h.lt
    ne:=h.ne
    bb:=Nat.le_trans h.bb (by simpa using hg.size)
    bs:=(h.bs.trans ⟨hg.os,hg.tape,hg.output,hg.size,fun b hb=>absurd hb (Nat.not_lt_zero _)⟩).setCell (Nat.zero_le _) _
    zk:=fun b hz=>(Below.heap_setCell w' ⟨gi,u,none⟩ _ b (fun (e : b=gi)=>h.z4.2.2.1 (e ▸ hz))).trans ((app_keep hg (Nat.lt_of_lt_of_le (h.zl b hz) h.bs.size) (hzr b hz)).trans (h.zk b hz))
    zf:=fun t ht b hb hz=>by
      rcases List.mem_append.1 ht with ht | ht
      · exact h.zf t (List.mem_append_left _ ht) b hb hz
      · rcases List.mem_or_eq_of_mem_set ht with ht | rfl
        · exact h.zf t (List.mem_append_right _ ht) b hb hz
        · rcases hA with hA | hA
          · exact h.zf s (List.mem_of_getElem? hsl) b (hA.symm.trans hb) hz
          · rw [hA] at hb
            injection hb with hb
            injection hb with hb
            have:=Nat.lt_of_lt_of_le (h.zl b hz) h.bs.size
            omega
    z4:=h.z4
    zl:=h.zl }
end
/-- The net: its memory, and what it means. -/
structure NetSt (n base g mb gi go : Nat) (Z : Nat→Prop) (w0 w : World) (l : List ED) (ins outs : List (Sl Int)) : Prop where
  m : NetM n base g mb gi go Z w0 w l ins outs
  i : NIO n l (ins.map Sl.l) (outs.map Sl.l)
section
variable {n base g mb gi go : Nat} {Z : Nat→Prop} {w0 w w' : World} {l l' : List ED} {ins outs : List (Sl Int)}
theorem NetSt.later (h : NetSt n base g mb gi go Z w0 w l ins outs) (hb : Below w.heap.size w w') : NetSt n base g mb gi go Z w0 w' l ins outs:=⟨h.m.later hb,h.i⟩
theorem NetSt.outAt (h : NetSt n base g mb gi go Z w0 w l ins outs) {v : Int} (hv : Ir n v) : ∃ s,outs[v.toNat]? = some s∧Own base 3 1 ienc w s∧s.l.Nodup∧(∀ u,u ∈ s.l↔lkE l v u≠none)∧s.l.length≤n:=by
  have hl : v.toNat<outs.length:=by rw [h.m.lo]; unfold Ir at hv; omega
  have hs : outs[v.toNat]? = some outs[v.toNat]:=List.getElem?_eq_getElem hl
  generalize outs[v.toNat]=s at *
  have hvn : ((v.toNat : Nat) : Int)=v:=by unfold Ir at hv; omega
  obtain ⟨h1,h2⟩:=h.i.o1 v.toNat s.l (by rw [List.getElem?_map,hs]; rfl)
  rw [hvn] at h2
  refine ⟨s,hs,h.m.fam.own v.toNat s (by rw [List.getElem?_append_left hl]; exact hs),h1,h2,nodup_len n s.l h1 fun u hu=>?_⟩
  obtain ⟨x,hx,_,ht⟩:=lk_mem_iff.1 ((h2 u).1 hu)
  rw [← ht]; exact (h.i.rng x hx).2.1
theorem NetSt.inAt (h : NetSt n base g mb gi go Z w0 w l ins outs) {v : Int} (hv : Ir n v) : ∃ s,ins[v.toNat]? = some s∧Own base 3 1 ienc w s∧s.l.Nodup∧(∀ u,u ∈ s.l↔lkE l u v≠none)∧s.l.length≤n:=by
  have hl : v.toNat<ins.length:=by rw [h.m.li]; unfold Ir at hv; omega
  have hs : ins[v.toNat]? = some ins[v.toNat]:=List.getElem?_eq_getElem hl
  generalize ins[v.toNat]=s at *
  have hvn : ((v.toNat : Nat) : Int)=v:=by unfold Ir at hv; omega
  obtain ⟨h1,h2⟩:=h.i.i1 v.toNat s.l (by rw [List.getElem?_map,hs]; rfl)
  rw [hvn] at h2
  refine ⟨s,hs,h.m.fam.own (outs.length+v.toNat) s (by rw [List.getElem?_append_right (Nat.le_add_right _ _),Nat.add_sub_cancel_left]; exact hs),h1,h2,nodup_len n s.l h1 fun u hu=>?_⟩
  obtain ⟨x,hx,hf,_⟩:=lk_mem_iff.1 ((h2 u).1 hu)
  rw [← hf]; exact (h.i.rng x hx).1
end
end Go.Proofs.Ytlbihfbeamlacaa
