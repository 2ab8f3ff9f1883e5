/- The plain law of Dist and Path. -/
import Derived.Test.YtlbihfbeamlacaaHbxad
set_option linter.unusedSimpArgs false
set_option linter.unusedVariables false
set_option maxRecDepth 100000
set_option maxHeartbeats 6400000
namespace Go.Proofs.Ytlbihfbeamlacaa
open Go.RowKit
def meetS (dA dB : Int→Int) (st : Int × Int) (v : Nat) : Int × Int:=if 0≤dA v∧0≤dB v∧(st.1<0∨dA v+dB v<st.2) then ((v : Int),dA v+dB v) else st
def meetL (dA dB : Int→Int) (n : Nat) : Int × Int:=(List.range n).foldl (meetS dA dB) (-1, -1)
def MeetP (dA dB : Int→Int) (k : Nat) (st : Int × Int) : Prop :=
  (st=(-1, -1)∧∀ v : Nat,v<k→¬ (0≤dA v∧0≤dB v))∨(∃ v : Nat,v<k∧st=((v : Int),dA v+dB v)∧0≤dA v∧0≤dB v∧∀ u : Nat,u<k→0≤dA u→0≤dB u→dA v+dB v≤dA u+dB u)
theorem MeetP.step {dA dB : Int→Int} {k : Nat} {st : Int × Int} (h : MeetP dA dB k st) : MeetP dA dB (k+1) (meetS dA dB st k):=by
  unfold meetS
  split
  · rename_i hc
    refine .inr ⟨k,by omega,rfl,hc.1,hc.2.1,fun u hu h1 h2=>?_⟩
    rcases Nat.lt_succ_iff_lt_or_eq.1 hu with hu | rfl
    · rcases h with ⟨_,h⟩ | ⟨v,hv,rfl,h3,h4,h5⟩
      · exact absurd ⟨h1,h2⟩ (h u hu)
      · have h6:=h5 u hu h1 h2
        rcases hc.2.2 with h7 | h7
        · simp only at h7; omega
        · simp only at h7; omega
    · exact Int.le_refl _
  · rename_i hc
    rcases h with ⟨rfl,h⟩ | ⟨v,hv,rfl,h3,h4,h5⟩
    · refine .inl ⟨rfl,fun v hv hv2=>?_⟩
      rcases Nat.lt_succ_iff_lt_or_eq.1 hv with hv | rfl
      · exact h v hv hv2
      · exact hc ⟨hv2.1,hv2.2,.inl (by decide)⟩
    · refine .inr ⟨v,by omega,rfl,h3,h4,fun u hu h1 h2=>?_⟩
      rcases Nat.lt_succ_iff_lt_or_eq.1 hu with hu | rfl
      · exact h5 u hu h1 h2
      · exact Int.not_lt.1 fun hlt=>hc ⟨h1,h2,.inr hlt⟩
theorem meetL_P (dA dB : Int→Int) : ∀ k,MeetP dA dB k (meetL dA dB k)
  | 0=>.inl ⟨rfl,fun v hv=>absurd hv (Nat.not_lt_zero _)⟩
  | k+1=>by
    have h:=(meetL_P dA dB k).step
    unfold meetL at h ⊢
    rw [List.range_succ,List.foldl_append]
    exact h
section
variable {n : Nat} {es : List ED} {rk : Int→Int} {D : Int→Int→Int} {F : Int→Int→Option ED} {s t : Int} {dA bA dB bB : Int→Int}
theorem HOK.rng (h : HOK n es rk D F) : ∀ f t x,F f t=some x→Ir n f∧Ir n t:=fun f t x hx=>⟨(h.inv.key f t x hx).2.2.1,(h.inv.key f t x hx).2.2.2.1⟩
theorem HOK.rngF (h : HOK n es rk D F) : ∀ f t x,flipF F f t=some x→Ir n f∧Ir n t:=fun f t x hx=>⟨(h.inv.key t f x hx).2.2.2.1,(h.inv.key t f x hx).2.2.1⟩
theorem climb_ge (h : HOK n es rk D F) (hs : Ir n s) (hA : Climb n F rk s dA bA) {v : Int} (hv : Ir n v) (h0 : 0≤dA v) : 0≤D s v∧D s v≤dA v :=
  (hA.way (fun u hu=>(h.lt u hu).1) n v hv (h.lt v hv).2 h0).ge h hs
theorem climb_geF (h : HOK n es rk D F) (ht : Ir n t) (hB : Climb n (flipF F) rk t dB bB) {v : Int} (hv : Ir n v) (h0 : 0≤dB v) : 0≤D v t∧D v t≤dB v :=
  (upflip_ge h (hB.way (fun u hu=>(h.lt u hu).1) n v hv (h.lt v hv).2 h0) ht).2
/-- Where both climbs meet: as short as any way. -/
theorem meet_D (h : HOK n es rk D F) (hs : Ir n s) (ht : Ir n t) (hA : Climb n F rk s dA bA) (hB : Climb n (flipF F) rk t dB bB) : (meetL dA dB n).2=D s t∧(0≤D s t→Ir n (meetL dA dB n).1∧0≤dA (meetL dA dB n).1∧0≤dB (meetL dA dB n).1∧dA (meetL dA dB n).1+dB (meetL dA dB n).1=D s t)∧(D s t<0→(meetL dA dB n).1 = -1):=by
  have hm:=meetL_P dA dB n
  have hall : 0≤D s t→∃ v : Nat,v<n∧0≤dA v∧0≤dB v∧dA v+dB v≤D s t:=fun h0=>by
    obtain ⟨v,a,b,h1,h2,h3⟩:=ud_all h (h.d.snd s t hs ht h0)
    have h4:=hA.min hs h.rng h1
    have h5:=hB.min ht h.rngF h2.up
    have hv:=h1.end_ h hs
    refine ⟨v.toNat,by have:=hv.2; have:=hv.1; omega, ?_⟩
    rw [Int.toNat_of_nonneg hv.1]
    exact ⟨h4.1,h5.1,by omega⟩
  rcases hm with ⟨he,hno⟩ | ⟨v,hv,he,h3,h4,h5⟩
  · rw [he]
    have hneg : ¬ 0≤D s t:=fun h0=>by
      obtain ⟨v,hv,h1,h2,_⟩:=hall h0
      exact hno v hv ⟨h1,h2⟩
    exact ⟨(h.d.none hneg).symm,fun h0=>absurd h0 hneg,fun _=>rfl⟩
  · rw [he]
    have hvr : Ir n (v : Int):=⟨by omega,by omega⟩
    have h1:=climb_ge h hs hA hvr h3
    have h2:=climb_geF h ht hB hvr h4
    have h6:=h.d.tri s v t hs hvr ht h1.1 h2.1
    obtain ⟨u,hu,h7,h8,h9⟩:=hall h6.1
    have h10:=h5 u hu h7 h8
    exact ⟨by simp only; omega,fun _=>⟨hvr,h3,h4,by simp only; omega⟩,fun hl=>by omega⟩
/-- Ways as lists, under weights. -/
def adjW (W : Int→Int→Int) : List Int→Prop
  | u :: w :: l=>0≤W u w∧adjW W (w :: l)
  | _=>True
def sumW (W : Int→Int→Int) : List Int→Int
  | u :: w :: l=>W u w+sumW W (w :: l)
  | _=>0
variable {W : Int→Int→Int}
theorem adjW_app : ∀ {l : List Int} {u : Int} {m : List Int},adjW W (l ++ [u])→adjW W (u :: m)→adjW W (l ++ u :: m)
  | [],_,_,_,h=>h
  | [a],u,m,h,k=>by
    simp only [List.cons_append,List.nil_append,adjW] at h ⊢
    exact ⟨h.1,k⟩
  | a :: b :: l,u,m,h,k=>by
    simp only [List.cons_append,adjW] at h ⊢
    exact ⟨h.1,adjW_app (l:=b :: l) h.2 k⟩
theorem adjW_left : ∀ {l : List Int} {u : Int} {m : List Int},adjW W (l ++ u :: m)→adjW W (l ++ [u])
  | [],_,_,_=>trivial
  | [a],u,m,h=>by
    simp only [List.cons_append,List.nil_append,adjW] at h ⊢
    exact ⟨h.1,trivial⟩
  | a :: b :: l,u,m,h=>by
    simp only [List.cons_append,adjW] at h ⊢
    exact ⟨h.1,adjW_left (l:=b :: l) h.2⟩
theorem adjW_right : ∀ {l : List Int} {m : List Int},adjW W (l ++ m)→adjW W m
  | [],_,h=>h
  | [a],[],_=>trivial
  | [a],b :: m,h=>by
    simp only [List.cons_append,List.nil_append,adjW] at h
    exact h.2
  | a :: b :: l,m,h=>by
    simp only [List.cons_append,adjW] at h
    exact adjW_right (l:=b :: l) h.2
theorem sumW_app : ∀ (l : List Int) (u : Int) (m : List Int),sumW W (l ++ u :: m)=sumW W (l ++ [u])+sumW W (u :: m)
  | [],u,m=>by simp [sumW]
  | [a],u,m=>by simp [sumW]
  | a :: b :: l,u,m=>by
    have:=sumW_app (b :: l) u m
    simp only [List.cons_append,sumW] at this ⊢
    omega
theorem sumW_ge : ∀ {l : List Int},adjW W l→0≤sumW W l
  | [],_=>Int.le_refl _
  | [_],_=>Int.le_refl _
  | a :: b :: l,h=>by
    have:=sumW_ge (l:=b :: l) h.2
    have:=h.1
    simp only [sumW]
    omega
/-- The weights of the hierarchy. -/
def hW (F : Int→Int→Option ED) (u w : Int) : Int:=match F u w with | some x=>x.n | none=>-1
/-- The nodes before. -/
def chB (b : Int→Int) : Nat→Int→List Int
  | 0,_=>[]
  | k+1,v=>if 0≤b v then b v :: chB b k (b v) else []
theorem chain_up (h : HOK n es rk D F) (hA : Climb n F rk s dA bA) : ∀ (k : Nat) (v : Int),Ir n v→rk v<k→0≤dA v→adjW (hW F) ((chB bA k v).reverse ++ [v])∧sumW (hW F) ((chB bA k v).reverse ++ [v])=dA v∧∃ m,(chB bA k v).reverse ++ [v]=s :: m
  | 0,v,hv,hk,_=>by have:=(h.lt v hv).1; omega
  | k+1,v,hv,hk,h0=>by
    unfold chB
    by_cases hvs : v=s
    · subst hvs
      rw [hA.b0,if_neg (by decide),hA.d0]
      exact ⟨trivial,rfl,[],rfl⟩
    · rcases hA.bef v hv h0 with h1 | ⟨x,hb,hx,hl,h1,h2⟩
      · exact absurd h1 hvs
      · rw [if_pos hb.1]
        obtain ⟨i1,i2,m,i3⟩:=chain_up h hA k (bA v) hb (by omega) h1
        have hw : hW F (bA v) v=x.n:=by unfold hW; rw [hx]
        have hx0:=h.n0 hx
        rw [List.reverse_cons,List.append_assoc]
        refine ⟨adjW_app i1 ⟨by rw [hw]; exact hx0,trivial⟩, ?_,m ++ [v],by rw [← List.append_assoc,i3]; rfl⟩
        show sumW (hW F) ((chB bA k (bA v)).reverse ++ bA v :: [v])=dA v
        rw [sumW_app,i2,h2]
        simp only [sumW,hw]
        omega
theorem chain_down (h : HOK n es rk D F) (hB : Climb n (flipF F) rk t dB bB) : ∀ (k : Nat) (v : Int),Ir n v→rk v<k→0≤dB v→adjW (hW F) (v :: chB bB k v)∧sumW (hW F) (v :: chB bB k v)=dB v∧∃ m,v :: chB bB k v=m ++ [t]
  | 0,v,hv,hk,_=>by have:=(h.lt v hv).1; omega
  | k+1,v,hv,hk,h0=>by
    unfold chB
    by_cases hvs : v=t
    · subst hvs
      rw [hB.b0,if_neg (by decide),hB.d0]
      exact ⟨trivial,rfl,[],rfl⟩
    · rcases hB.bef v hv h0 with h1 | ⟨x,hb,hx,hl,h1,h2⟩
      · exact absurd h1 hvs
      · have hx : F v (bB v)=some x:=hx
        rw [if_pos hb.1]
        obtain ⟨i1,i2,m,i3⟩:=chain_down h hB k (bB v) hb (by omega) h1
        have hw : hW F v (bB v)=x.n:=by unfold hW; rw [hx]
        have hx0:=h.n0 hx
        refine ⟨⟨by rw [hw]; exact hx0,i1⟩, ?_,v :: m,by rw [i3]; rfl⟩
        simp only [sumW,hw]
        rw [i2,h2]
        omega
/-- The whole climb from s to t: an edge of the hierarchy at each step, as long as the distance. -/
def climbL (bA bB : Int→Int) (n : Nat) (v : Int) : List Int:=(chB bA n v).reverse ++ v :: chB bB n v
theorem climb_whole (h : HOK n es rk D F) (hA : Climb n F rk s dA bA) (hB : Climb n (flipF F) rk t dB bB) {v : Int} (hv : Ir n v) (h1 : 0≤dA v) (h2 : 0≤dB v) :
    adjW (hW F) (climbL bA bB n v)∧sumW (hW F) (climbL bA bB n v)=dA v+dB v∧(∃ m,climbL bA bB n v=s :: m)∧∃ m,climbL bA bB n v=m ++ [t]:=by
  obtain ⟨a1,a2,m1,a3⟩:=chain_up h hA n v hv (h.lt v hv).2 h1
  obtain ⟨b1,b2,m2,b3⟩:=chain_down h hB n v hv (h.lt v hv).2 h2
  unfold climbL
  refine ⟨adjW_app a1 b1,by rw [sumW_app,a2,b2],⟨m1 ++ chB bB n v, ?_⟩,⟨(chB bA n v).reverse ++ m2,by rw [b3,List.append_assoc]⟩⟩
  rw [← List.cons_append,← a3,List.append_assoc]
  rfl
/-- The nodes of an edge of the hierarchy behind its first one. -/
def unpF (F : Int→Int→Option ED) : Nat→Int→Int→List Int
  | 0,_,w=>[w]
  | k+1,u,w=>match F u w with
    | some x=>if x.v<0 then [w] else unpF F k u x.v ++ unpF F k x.v w
    | none=>[w]
theorem unpack_ok (h : HOK n es rk D F) : ∀ (k : Nat) (u w : Int) (x : ED),F u w=some x→(rk u<k∨rk w<k)→adjW (leastE es) (u :: unpF F k u w)∧sumW (leastE es) (u :: unpF F k u w)=x.n∧∃ m,unpF F k u w=m ++ [w]
  | 0,u,w,x,hx,hk=>by
    have hr:=h.rng u w x hx
    have:=(h.lt u hr.1).1
    have:=(h.lt w hr.2).1
    omega
  | k+1,u,w,x,hx,hk=>by
    unfold unpF
    rw [hx]
    simp only
    rcases h.inv.via u w x hx with ⟨h1,h2⟩ | ⟨h1,h2,h3,a,b,ha,hb,hab⟩
    · rw [if_pos (by omega)]
      have:=h.n0 hx
      exact ⟨⟨by rw [h2]; exact this,trivial⟩,by simp only [sumW]; omega,[],rfl⟩
    · rw [if_neg (by have:=h1.1; omega)]
      obtain ⟨i1,i2,m1,i3⟩:=unpack_ok h k u x.v a ha (.inr (by omega))
      obtain ⟨j1,j2,m2,j3⟩:=unpack_ok h k x.v w b hb (.inl (by omega))
      refine ⟨?_, ?_,m1 ++ x.v :: m2,by rw [i3,j3,List.append_assoc,List.append_assoc]; rfl⟩
      · rw [i3] at i1 ⊢
        rw [List.append_assoc]
        exact adjW_app (l:=u :: m1) i1 j1
      · rw [i3] at i2 ⊢
        rw [List.append_assoc]
        have:=sumW_app (W:=leastE es) (u :: m1) x.v (unpF F k x.v w)
        simp only [List.cons_append] at this i2 ⊢
        rw [List.nil_append,this,i2,j2,hab]
def unpL (F : Int→Int→Option ED) (n : Nat) : List Int→List Int
  | u :: w :: l=>unpF F n u w ++ unpL F n (w :: l)
  | _=>[]
theorem hW_some {u w : Int} (h0 : 0≤hW F u w) : ∃ x,F u w=some x∧hW F u w=x.n:=by
  unfold hW at h0 ⊢
  cases hx : F u w with
  | some x=>exact ⟨x,rfl,rfl⟩
  | none=>rw [hx] at h0; simp only at h0; omega
theorem unpackL_ok (h : HOK n es rk D F) : ∀ (l : List Int) (u : Int),adjW (hW F) (u :: l)→adjW (leastE es) (u :: unpL F n (u :: l))∧sumW (leastE es) (u :: unpL F n (u :: l))=sumW (hW F) (u :: l)∧∀ t,(∃ m,u :: l=m ++ [t])→∃ m,u :: unpL F n (u :: l)=m ++ [t]
  | [],u,_=>⟨trivial,rfl,fun _ h=>h⟩
  | w :: l,u,ha=>by
    obtain ⟨x,hx,hxn⟩:=hW_some ha.1
    obtain ⟨i1,i2,m1,i3⟩:=unpack_ok h n u w x hx (.inl (h.lt u (h.rng u w x hx).1).2)
    obtain ⟨j1,j2,j3⟩:=unpackL_ok h l w ha.2
    simp only [unpL]
    rw [i3] at i1 i2 ⊢
    rw [List.append_assoc]
    refine ⟨adjW_app (l:=u :: m1) i1 j1, ?_,fun t ⟨m,hm⟩=>?_⟩
    · have:=sumW_app (W:=leastE es) (u :: m1) w (unpL F n (w :: l))
      simp only [List.cons_append,List.nil_append] at this i2 ⊢
      rw [this,i2,j2]
      simp only [sumW]
      rw [hxn]
    · have hm2 : ∃ m,w :: l=m ++ [t]:=by
        cases m with
        | nil=>simp at hm
        | cons y m=>simp only [List.cons_append,List.cons.injEq] at hm; exact ⟨m,hm.2⟩
      obtain ⟨m',hm'⟩:=j3 t hm2
      exact ⟨u :: m1 ++ m',by rw [List.append_assoc,← hm']; rfl⟩
end
/-- simple: what a way goes around is left out. -/
def smpS (out : List Int) (v : Int) : List Int:=out.takeWhile (fun x=>!decide (x=v)) ++ [v]
def smpL (l : List Int) : List Int:=l.foldl smpS []
structure SmpP (W : Int→Int→Int) (s u c : Int) (out : List Int) : Prop where
  fst : ∃ m,out=s :: m
  lst : ∃ m,out=m ++ [u]
  adj : adjW W out
  sum : sumW W out≤c
  nod : out.Nodup
theorem take_while {v : Int} : ∀ {l : List Int},(v ∉ l∧l.takeWhile (fun x=>!decide (x=v))=l)∨∃ p q,l=p ++ v :: q∧v ∉ p∧l.takeWhile (fun x=>!decide (x=v))=p
  | []=>.inl ⟨List.not_mem_nil,rfl⟩
  | x :: l=>by
    by_cases hx : x=v
    · subst hx
      exact .inr ⟨[],l,rfl,List.not_mem_nil,by simp⟩
    · rcases take_while (v:=v) (l:=l) with ⟨h1,h2⟩ | ⟨p,q,h1,h2,h3⟩
      · exact .inl ⟨fun h=>by rcases List.mem_cons.1 h with h | h; exact hx h.symm; exact h1 h,by simp [hx,h2]⟩
      · exact .inr ⟨x :: p,q,by rw [h1]; rfl,fun h=>by rcases List.mem_cons.1 h with h | h; exact hx h.symm; exact h2 h,by simp [hx,h3]⟩
theorem nodup_snoc {l : List Int} {v : Int} (h : l.Nodup) (hv : v ∉ l) : (l ++ [v]).Nodup:=by
  rw [List.nodup_append]
  exact ⟨h,by simp,fun a ha b hb e=>by rw [List.mem_singleton.1 hb] at e; rw [e] at ha; exact hv ha⟩
theorem SmpP.step {W : Int→Int→Int} {s u c v : Int} {out : List Int} (h : SmpP W s u c out) (hw : 0≤W u v) : SmpP W s v (c+W u v) (smpS out v):=by
  obtain ⟨m1,h1⟩:=h.fst
  obtain ⟨m2,h2⟩:=h.lst
  unfold smpS
  rcases take_while (v:=v) (l:=out) with ⟨h3,h4⟩ | ⟨p,q,h3,h4,h5⟩
  · rw [h4]
    refine ⟨⟨m1 ++ [v],by rw [h1]; rfl⟩,⟨out,rfl⟩, ?_, ?_,nodup_snoc h.nod h3⟩
    · have ha:=h.adj
      rw [h2] at ha ⊢
      rw [List.append_assoc]
      exact adjW_app ha ⟨hw,trivial⟩
    · have hs:=h.sum
      rw [h2] at hs ⊢
      rw [List.append_assoc]
      have:=sumW_app (W:=W) m2 u [v]
      simp only [List.cons_append,List.nil_append,sumW] at this ⊢
      omega
  · rw [h5]
    have ha:=h.adj
    rw [h3] at ha
    have hs:=h.sum
    rw [h3,sumW_app] at hs
    have hq:=sumW_ge (adjW_right ha)
    refine ⟨?_,⟨p,rfl⟩,adjW_left ha,by omega, ?_⟩
    · cases p with
      | nil=>rw [h3] at h1; simp only [List.nil_append,List.cons.injEq] at h1; exact ⟨[],by rw [h1.1]; rfl⟩
      | cons y p=>rw [h3] at h1; simp only [List.cons_append,List.cons.injEq] at h1; exact ⟨p ++ [v],by rw [h1.1]; rfl⟩
    · have hn:=h.nod
      rw [h3] at hn
      exact nodup_snoc (List.nodup_append.1 hn).1 h4
theorem smp_all {W : Int→Int→Int} {s : Int} : ∀ (l : List Int) (u c : Int) (out : List Int),SmpP W s u c out→adjW W (u :: l)→∀ t,(∃ m,u :: l=m ++ [t])→SmpP W s t (c+sumW W (u :: l)) (l.foldl smpS out)
  | [],u,c,out,h,_,t,⟨m,hm⟩=>by
    have : u=t:=by
      cases m with
      | nil=>simp at hm; exact hm
      | cons y m=>simp at hm
    subst this
    simp only [sumW,List.foldl_nil]
    rw [Int.add_zero]
    exact h
  | w :: l,u,c,out,h,ha,t,⟨m,hm⟩=>by
    have hm2 : ∃ m,w :: l=m ++ [t]:=by
      cases m with
      | nil=>simp at hm
      | cons y m=>simp only [List.cons_append,List.cons.injEq] at hm; exact ⟨m,hm.2⟩
    have:=smp_all l w (c+W u w) (smpS out w) (h.step ha.1) ha.2 t hm2
    simp only [List.foldl_cons,sumW]
    rw [← Int.add_assoc]
    exact this
theorem smpL_ok {W : Int→Int→Int} {s t : Int} {l : List Int} (ha : adjW W (s :: l)) (hl : ∃ m,s :: l=m ++ [t]) : SmpP W s t (sumW W (s :: l)) (smpL (s :: l)):=by
  have h0 : SmpP W s s 0 (smpS [] s):=⟨⟨[],rfl⟩,⟨[],rfl⟩,trivial,Int.le_refl _,List.pairwise_singleton _ _⟩
  have:=smp_all l s 0 _ h0 ha t hl
  rw [Int.zero_add] at this
  exact this
end Go.Proofs.Ytlbihfbeamlacaa
