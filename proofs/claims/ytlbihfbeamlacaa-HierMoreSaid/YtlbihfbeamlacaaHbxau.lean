/- Walks: what Build sorts by, and the sort: the row holds what it held, ascending by from and to. -/
import Derived.Test.YtlbihfbeamlacaaHbxat
import Derived.LoopN
set_option linter.unusedSimpArgs false
set_option linter.unusedVariables false
set_option maxRecDepth 100000
set_option maxHeartbeats 6400000
namespace Go.Proofs.Ytlbihfbeamlacaa
open Go.RowKit
open Go.RowKit Go.Sort
instance : Inhabited ED:=⟨⟨0,0,0,0⟩⟩
def cmpI (x y : Int) : Int:=if x<y then -1 else if y<x then 1 else 0
theorem cmpI_lt {x y : Int} (h : x<y) : cmpI x y = -1:=by simp [cmpI,h]
theorem cmpI_gt {x y : Int} (h : y<x) : cmpI x y=1:=by simp [cmpI,h]; omega
theorem cmpI_eq {x y : Int} (h : x=y) : cmpI x y=0:=by simp [cmpI,h]
theorem cmp_int (x y : Int) (w : World) : Calls Try.prog 32 #[.int .i64 x,.int .i64 y] w fun e w'=>e = .returned (.int .i64 (cmpI x y))∧w=w':=by
  rcases Int.lt_trichotomy x y with h | h | h
  · rw [cmpI_lt h]
    go_enter Try.func32,Try.ntmps32
    go_wp2
    go_ret
    exact ⟨rfl,rfl⟩
  · rw [cmpI_eq h]
    subst h
    go_enter Try.func32,Try.ntmps32
    go_wp2
    go_ret
    exact ⟨rfl,rfl⟩
  · rw [cmpI_gt h]
    go_enter Try.func32,Try.ntmps32
    go_wp2
    go_ret
    exact ⟨rfl,rfl⟩
theorem countP_at {α : Type} (p : α→Bool) : ∀ (l : List α) (i : Nat),i≤l.length→(∀ t x,l[t]? = some x→t<i→p x=true)→(∀ t x,l[t]? = some x→i≤t→p x=false)→l.countP p=i
  | [],i,hi,_,_=>by simp at hi; simp [hi]
  | a :: r,0,_,_,h2=>by
    rw [List.countP_eq_zero]
    intro x hx
    obtain ⟨t,ht,rfl⟩:=List.getElem_of_mem hx
    simp [h2 t _ (List.getElem?_eq_getElem ht) (Nat.zero_le _)]
  | a :: r,i+1,hi,h1,h2=>by
    have ha : p a=true:=h1 0 a rfl (Nat.succ_pos _)
    rw [List.countP_cons_of_pos ha,countP_at p r i (by simpa using hi) (fun t x hx ht=>h1 (t+1) x (by simpa using hx) (by omega)) (fun t x hx ht=>h2 (t+1) x (by simpa using hx) (by omega))]
theorem sorted_get {α : Type} {R : α→α→Prop} {l : List α} (h : l.Pairwise R) {i j : Nat} {x y : α} (hx : l[i]? = some x) (hy : l[j]? = some y) (hij : i<j) : R x y:=by
  obtain ⟨hi,rfl⟩:=List.getElem?_eq_some_iff.1 hx
  obtain ⟨hj,rfl⟩:=List.getElem?_eq_some_iff.1 hy
  exact List.pairwise_iff_getElem.1 h i j hi hj hij
theorem any_at {α : Type} {p : α→Bool} {l : List α} {i : Nat} {x : α} (hx : l[i]? = some x) (h : ∀ t y,l[t]? = some y→p y=true→t=i) : l.any p=p x:=by
  rcases hp : p x with _ | _
  · rw [List.any_eq_false]
    intro y hy hpy
    obtain ⟨t,ht,rfl⟩:=List.getElem_of_mem hy
    have:=h t _ (List.getElem?_eq_getElem ht) hpy
    subst this
    rw [List.getElem?_eq_getElem ht] at hx
    injection hx with hx
    rw [hx,hp] at hpy
    cases hpy
  · exact List.any_eq_true.2 ⟨x,List.mem_of_getElem? hx,hp⟩
def orI (x y : Int) : Int:=if x≠0 then x else y
theorem or_int (x y : Int) (g : Nat) (w : World) (h0 : w.cell? ⟨g,0,none⟩=some (.int .i64 x)) (h1 : w.cell? ⟨g,1,none⟩=some (.int .i64 y)) :
    Calls Try.prog 31 #[.slice (some ⟨g,0,none⟩) 2 2] w fun e w'=>e = .returned (.int .i64 (orI x y))∧w=w':=by
  unfold orI
  by_cases hx : x=0
  · have e1 : (x != 0)=false:=by simp [hx]
    have hv : (if x≠0 then x else y)=y:=if_neg (fun h=>h hx)
    rw [hv]
    clear hv
    have HX:=Lib.hid hx
    clear hx
    by_cases hy : y=0
    · have e2 : (y != 0)=false:=by simp [hy]
      have HY:=Lib.hid hy
      clear hy
      go_enter Try.func31,Try.ntmps31
      go_wp2_with fail
      refine wp_loop_rounds 3 ?_
      rw [rounds_succ]
      go_wp2_with fail
      rw [rounds_succ]
      go_wp2_with fail
      rw [rounds_succ]
      go_wp2_with fail
      go_ret
      exact ⟨ret_int HY.out.symm,rfl⟩
    · have e2 : (y != 0)=true:=by simp [hy]
      clear hy
      go_enter Try.func31,Try.ntmps31
      go_wp2_with fail
      refine wp_loop_rounds 3 ?_
      rw [rounds_succ]
      go_wp2_with fail
      rw [rounds_succ]
      go_wp2_with fail
      go_ret
      exact ⟨rfl,rfl⟩
  · have e1 : (x != 0)=true:=by simp [hx]
    have hv : (if x≠0 then x else y)=x:=if_pos hx
    rw [hv]
    clear hv hx
    go_enter Try.func31,Try.ntmps31
    go_wp2_with fail
    refine wp_loop_rounds 3 ?_
    rw [rounds_succ]
    go_wp2_with fail
    go_ret
    exact ⟨rfl,rfl⟩
def cmpEd (x y : ED) : Int:=orI (cmpI x.f y.f) (cmpI x.t y.t)
theorem cmp_edge (a b : ED) (w : World) :
    Calls Try.prog 30 #[a.v',b.v'] w fun e w'=>e = .returned (.int .i64 (cmpEd a b))∧∃ q os',w'=grow (w.drewN q) os':=by
  unfold cmpEd
  obtain ⟨af',at',an,av⟩:=a
  obtain ⟨bf',bt',bn,bv⟩:=b
  simp only [ED.v']
  have K_a:=(Blk.new w 44 #[.int .i64 af',.int .i64 at',.int .i64 an,.int .i64 av]).alloc (.cells #[.int .i64 bf',.int .i64 bt',.int .i64 bn,.int .i64 bv] 44)
  have K_b : Blk (World.alloc (World.alloc w (.cells #[.int .i64 af',.int .i64 at',.int .i64 an,.int .i64 av] 44)) (.cells #[.int .i64 bf',.int .i64 bt',.int .i64 bn,.int .i64 bv] 44)) (w.heap.size+1) 44 #[.int .i64 bf',.int .i64 bt',.int .i64 bn,.int .i64 bv]:=Blk.new' (by simp)
  obtain ⟨a0,a1,a2,a3,af,az⟩:=K_a.b4
  obtain ⟨b0,b1,b2,b3,bf,bz⟩:=K_b.b4
  clear K_a K_b
  go_enter Try.func30,Try.ntmps30
  go_wp2_with fail
  refine wp_region_T (fun w'=>(w'.cell? ⟨w.heap.size,0,none⟩=some (.int .i64 af')∧w'.cell? ⟨w.heap.size,1,none⟩=some (.int .i64 at')∧w'.cell? ⟨w.heap.size,2,none⟩=some (.int .i64 an)∧w'.cell? ⟨w.heap.size,3,none⟩=some (.int .i64 av))∧(w'.cell? ⟨w.heap.size+1,0,none⟩=some (.int .i64 bf')∧w'.cell? ⟨w.heap.size+1,1,none⟩=some (.int .i64 bt')∧w'.cell? ⟨w.heap.size+1,2,none⟩=some (.int .i64 bn)∧w'.cell? ⟨w.heap.size+1,3,none⟩=some (.int .i64 bv))) (fun _=>false) (by kernel_rfl) ⟨⟨a0,a1,a2,a3⟩,b0,b1,b2,b3⟩ (fun hHeld=>?_)
  refine wpAnyT_take2 (i:=0) (v:=?_) rfl rfl (by kernel_rfl) (by kernel_rfl) (by kernel_rfl) (by kernel_rfl) (fun _ _ _ h=>h) (Or.inl ⟨by rfl, ?_⟩) (by first | assumption | trivial) ?_
  rotate_left
  · (intro w hSw; (try dsimp only at hSw); go_simp) <;> (with_reducible rfl)
  simp only [List.setIfInBounds_toArray,List.set_cons_zero,List.set_cons_succ]
  refine wpAnyT_take2 (i:=1) (v:=?_) rfl rfl (by kernel_rfl) (by kernel_rfl) (by kernel_rfl) (by kernel_rfl) (fun _ _ _ h=>h) (Or.inl ⟨by rfl, ?_⟩) (by first | assumption | trivial) ?_
  rotate_left
  · (intro w hSw; (try dsimp only at hSw); go_simp) <;> (with_reducible rfl)
  simp only [List.setIfInBounds_toArray,List.set_cons_zero,List.set_cons_succ]
  refine wpAnyT_take2 (i:=2) (v:=?_) rfl rfl (by kernel_rfl) (by kernel_rfl) (by kernel_rfl) (by kernel_rfl) (fun _ _ _ h=>h) (Or.inl ⟨by rfl, ?_⟩) (by first | assumption | trivial) ?_
  rotate_left
  · (intro w hSw; (try dsimp only at hSw); go_simp) <;> (with_reducible rfl)
  simp only [List.setIfInBounds_toArray,List.set_cons_zero,List.set_cons_succ]
  refine wpAnyT_take2 (i:=3) (v:=?_) rfl rfl (by kernel_rfl) (by kernel_rfl) (by kernel_rfl) (by kernel_rfl) (fun _ _ _ h=>h) (Or.inl ⟨by rfl, ?_⟩) (by first | assumption | trivial) ?_
  rotate_left
  · (intro w hSw; (try dsimp only at hSw); go_simp) <;> (with_reducible rfl)
  simp only [List.setIfInBounds_toArray,List.set_cons_zero,List.set_cons_succ]
  refine wpAnyT_take2 (i:=5) (v:=?_) rfl rfl (by kernel_rfl) (by kernel_rfl) (by kernel_rfl) (by kernel_rfl) (fun _ _ _ h=>h) (Or.inl ⟨by rfl, ?_⟩) (by first | assumption | trivial) ?_
  rotate_left
  · (intro w hSw; (try dsimp only at hSw); go_simp) <;> (with_reducible rfl)
  simp only [List.setIfInBounds_toArray,List.set_cons_zero,List.set_cons_succ]
  refine wpAnyT_take2 (i:=6) (v:=?_) rfl rfl (by kernel_rfl) (by kernel_rfl) (by kernel_rfl) (by kernel_rfl) (fun _ _ _ h=>h) (Or.inl ⟨by rfl, ?_⟩) (by first | assumption | trivial) ?_
  rotate_left
  · (intro w hSw; (try dsimp only at hSw); go_simp) <;> (with_reducible rfl)
  simp only [List.setIfInBounds_toArray,List.set_cons_zero,List.set_cons_succ]
  refine wpAnyT_take2 (i:=7) (v:=?_) rfl rfl (by kernel_rfl) (by kernel_rfl) (by kernel_rfl) (by kernel_rfl) (fun _ _ _ h=>h) (Or.inl ⟨by rfl, ?_⟩) (by first | assumption | trivial) ?_
  rotate_left
  · (intro w hSw; (try dsimp only at hSw); go_simp) <;> (with_reducible rfl)
  simp only [List.setIfInBounds_toArray,List.set_cons_zero,List.set_cons_succ]
  refine wpAnyT_take2 (i:=8) (v:=?_) rfl rfl (by kernel_rfl) (by kernel_rfl) (by kernel_rfl) (by kernel_rfl) (fun _ _ _ h=>h) (Or.inl ⟨by rfl, ?_⟩) (by first | assumption | trivial) ?_
  rotate_left
  · (intro w hSw; (try dsimp only at hSw); go_simp) <;> (with_reducible rfl)
  simp only [List.setIfInBounds_toArray,List.set_cons_zero,List.set_cons_succ]
  clear hHeld
  refine wpAnyT_next (i:=4) (by kernel_rfl) rfl ?_
  go_wp2_with fail
  refine (cmp_int af' bf' _).mono ?_
  rintro e w1 ⟨rfl,rfl⟩
  generalize hva : cmpI af' bf'=va
  have HVA:=Lib.hid hva
  clear hva
  go_wp2_with fail
  refine ⟨(by first | exact fun _=>⟨⟨a0,a1,a2,a3⟩,b0,b1,b2,b3⟩ | exact ⟨⟨a0,a1,a2,a3⟩,b0,b1,b2,b3⟩), ?_⟩
  refine wpAnyT_next (i:=9) (by kernel_rfl) rfl ?_
  go_wp2_with fail
  refine (cmp_int at' bt' _).mono ?_
  rintro e w1 ⟨rfl,rfl⟩
  generalize hvb : cmpI at' bt'=vb
  have HVB:=Lib.hid hvb
  clear hvb
  go_wp2_with fail
  refine ⟨(by first | exact fun _=>⟨⟨a0,a1,a2,a3⟩,b0,b1,b2,b3⟩ | exact ⟨⟨a0,a1,a2,a3⟩,b0,b1,b2,b3⟩), ?_⟩
  refine wpAnyT_next (i:=10) (by kernel_rfl) rfl ?_
  go_wp2_with fail
  refine ⟨(by first | exact fun _=>⟨⟨kalloc _ a0,kalloc _ a1,kalloc _ a2,kalloc _ a3⟩,kalloc _ b0,kalloc _ b1,kalloc _ b2,kalloc _ b3⟩ | exact ⟨⟨kalloc _ a0,kalloc _ a1,kalloc _ a2,kalloc _ a3⟩,kalloc _ b0,kalloc _ b1,kalloc _ b2,kalloc _ b3⟩), ?_⟩
  refine wpAnyT_next (i:=11) (by kernel_rfl) rfl ?_
  go_wp2_with fail
  refine (or_int va vb (w.heap.size+2) _ ?_ ?_).mono ?_
  · exact (Blk.new' (by simp)).b2.1
  · exact (Blk.new' (by simp)).b2.2.1
  rintro e w1 ⟨rfl,rfl⟩
  generalize hvc : orI va vb=vc
  have HVC:=Lib.hid hvc
  clear hvc
  go_wp2_with fail
  refine ⟨(by first | exact fun _=>⟨⟨kalloc _ a0,kalloc _ a1,kalloc _ a2,kalloc _ a3⟩,kalloc _ b0,kalloc _ b1,kalloc _ b2,kalloc _ b3⟩ | exact ⟨⟨kalloc _ a0,kalloc _ a1,kalloc _ a2,kalloc _ a3⟩,kalloc _ b0,kalloc _ b1,kalloc _ b2,kalloc _ b3⟩), ?_⟩
  have hHeld:=And.intro (And.intro (kalloc (.cells #[.int .i64 va,.int .i64 vb] 3) a0) (And.intro (kalloc (.cells #[.int .i64 va,.int .i64 vb] 3) a1) (And.intro (kalloc (.cells #[.int .i64 va,.int .i64 vb] 3) a2) (kalloc (.cells #[.int .i64 va,.int .i64 vb] 3) a3)))) (And.intro (kalloc (.cells #[.int .i64 va,.int .i64 vb] 3) b0) (And.intro (kalloc (.cells #[.int .i64 va,.int .i64 vb] 3) b1) (And.intro (kalloc (.cells #[.int .i64 va,.int .i64 vb] 3) b2) (kalloc (.cells #[.int .i64 va,.int .i64 vb] 3) b3))))
  refine wpAnyT_take2 (i:=12) (v:=?_) rfl rfl (by kernel_rfl) (by kernel_rfl) (by kernel_rfl) (by kernel_rfl) (fun _ _ _ h=>h) (Or.inl ⟨by rfl, ?_⟩) (by first | assumption | trivial) ?_
  rotate_left
  · (intro w hSw; (try dsimp only at hSw); go_simp) <;> (with_reducible rfl)
  simp only [List.setIfInBounds_toArray,List.set_cons_zero,List.set_cons_succ]
  refine wpAnyT_done (by kernel_rfl) ?_ _
  clear hHeld
  go_wp2_with fail
  go_ret
  refine ⟨by rw [HVA.out,HVB.out,HVC.out]; simp [Act.eval,go_sem],1,#[.cells #[.int .i64 af',.int .i64 at',.int .i64 an,.int .i64 av] 44,.cells #[.int .i64 bf',.int .i64 bt',.int .i64 bn,.int .i64 bv] 44,.cells #[.int .i64 va,.int .i64 vb] 3], ?_⟩
  rw [alloc_eq_grow,alloc_eq_grow,alloc_eq_grow,grow_grow,grow_grow]
  rfl
theorem flat4_get (d : Array ED) {j : Nat} (hj : j<d.size * 4) : (d.toList.flatMap ED.enc)[j]? = some ((ED.enc d[j / 4]!)[j % 4]!):=by
  have h1 : j / 4<d.size:=by omega
  have hx : d.toList[j / 4]? = some d[j / 4]!:=by rw [Array.getElem?_toList,Array.getElem?_eq_getElem h1,getElem!_pos d _ h1]
  have:=flat_get (enc:=ED.enc) ED.k d.toList (j / 4) (j % 4) _ hx (Nat.mod_lt _ (by omega))
  rw [show j / 4 * 4+j % 4=j by omega] at this
  rw [this]
  have h2 : j % 4<(ED.enc d[j / 4]!).length:=by rw [ED.k]; exact Nat.mod_lt _ (by omega)
  rw [List.getElem?_eq_getElem h2,getElem!_pos (ED.enc d[j / 4]!) (j % 4) h2]
theorem sort_heap {w : World} {g : Nat} {cur : Array Value} {e : TypeId} (n : Nat) (d : Array ED) (os : Array Obj) (hg : Blk w g e cur) :
    Blk (sortWorldK ED.enc 4 w g 0 n d os) g e (Go.Sort.putCells id 0 (Go.Sort.flatK ED.enc 4 d) cur):=by
  unfold Blk at *
  unfold sortWorldK Go.Sort.putRowK Go.Sort.putRow
  rw [Go.Sort.heap_grow_old _ _ (by simp [Go.Sort.mapBlock,Go.Sort.ahead]; exact (Array.getElem?_eq_some_iff.1 hg).1)]
  simp only [Go.Sort.mapBlock,Go.Sort.ahead,Array.getElem?_modify,hg,if_true,Option.map_some,Go.Sort.onCells]
theorem sort_grown {w : World} {g : Nat} (n : Nat) (d : Array ED) (os : Array Obj) : w.grownBy (sortWorldK ED.enc 4 w g 0 n d os) (some g):=by
  refine ⟨rfl,rfl,rfl, ?_,fun j hj hne=>?_⟩
  · unfold sortWorldK; rw [Go.Sort.size_grow,Go.Sort.size_putRowK]; exact Nat.le_add_right _ _
  · unfold sortWorldK Go.Sort.putRowK Go.Sort.putRow
    rw [Go.Sort.heap_grow_old _ _ (by simp [Go.Sort.mapBlock,Go.Sort.ahead]; exact hj)]
    simp only [Go.Sort.mapBlock,Go.Sort.ahead,Array.getElem?_modify]
    rw [if_neg (fun h=>hne (by rw [h]))]
theorem cmpI_sgn (x y : Int) : (cmpI x y<0↔x<y)∧(cmpI x y=0↔x=y):=by
  rcases Int.lt_trichotomy x y with h | h | h
  · rw [cmpI_lt h]; omega
  · rw [cmpI_eq h]; omega
  · rw [cmpI_gt h]; omega
theorem lt_cmpEd (x y : ED) : ltOf cmpEd x y=true↔ltE x y:=by
  unfold ltOf cmpEd orI ltE
  rw [decide_eq_true_iff]
  have h1:=cmpI_sgn x.f y.f
  have h2:=cmpI_sgn x.t y.t
  split <;> omega
theorem swoEd : Go.Sort.SWO (ltOf cmpEd) where
  irrefl x:=by
    rcases h : ltOf cmpEd x x
    · rfl
    · exact absurd ((lt_cmpEd x x).1 h) (by unfold ltE; omega)
  trans x y z h1 h2:=(lt_cmpEd x z).2 (ltE_trans ((lt_cmpEd x y).1 h1) ((lt_cmpEd y z).1 h2))
  ntrans x y z h1 h2:=by
    rcases h : ltOf cmpEd x z
    · rfl
    · have h3:=(lt_cmpEd x z).1 h
      have n1 : ¬ ltE x y:=fun hc=>by rw [(lt_cmpEd x y).2 hc] at h1; cases h1
      have n2 : ¬ ltE y z:=fun hc=>by rw [(lt_cmpEd y z).2 hc] at h2; cases h2
      unfold ltE at *
      omega
theorem sort_edge_laid (s : Sl ED) (base g : Nat) (w : World) (hown : Own base 44 4 ED.enc w s) (hA : s.A=some ⟨g,0,none⟩) (hlen : s.l.length≤100000) :
    Calls Try.prog 29 #[.slice s.A s.l.length s.c,.func (.func 30) #[] #[]] w fun e w'=>e = .returned (.tuple #[]) ∧
      ∃ l',l'.Perm s.l∧l'.Pairwise (fun a b=>¬ ltE b a)∧Own base 44 4 ED.enc w' ⟨s.A,s.c,l'⟩∧w.grownBy w' (some g):=by
  obtain ⟨A,c,l⟩:=s
  simp only at hA hlen
  subst hA
  obtain ⟨cur,hB,hcs,htk,hlc,hcm,hbg⟩:=hown.blk rfl
  simp only at hcs htk hlc hcm
  have eg : ∀ args w,(callFunc 30 args).run Try.prog w = .ok (.enter 30 args) w:=enters_of Try.func30 (by kernel_rfl) rfl
  have hH : Go.Sort.HoldsK ED.enc 4 w g 0 l.toArray:=by
    intro j hj
    rw [Go.Sort.size_flatK] at hj
    refine ⟨?_,hB.frozen _⟩
    rw [hB.cell,Nat.zero_add,Go.Sort.get_flatK _ _ _ _ hj]
    have h1:=flat4_get l.toArray hj
    rw [List.toList_toArray,← htk,List.getElem?_take,if_pos (by simpa using hj),Array.getElem?_toList] at h1
    exact h1
  have hcmp : CmpLays Try.prog 30 #[] ED.enc 4 cmpEd g 0 l.toArray.size w:=fun _ _ _ _ x y=>cmp_edge x y _
  have hcon:=AnyQ.slices_SortFunc Try.sortEdge 4 Try.isAgg44 Try.sizeOf44 ED.enc ED.k ED.one cmpEd swoEd 30 #[] g 0 c l.toArray w eg hcmp hH hB.lt (by simp; omega)
  refine Calls.mono (show Calls Try.prog 29 #[.slice (some ⟨g,0,none⟩) l.length c,.func (.func 30) #[] #[]] w _ from hcon) ?_
  rintro e w' ⟨he,d',n,os,hp,hs,rfl⟩
  have hsz : d'.size=l.length:=by have:=hp.1; simpa using this
  have hperm : d'.toList.Perm l:=by
    have:=hp.2.2
    simp only [List.size_toArray] at this
    rw [← hsz,Array.extract_size,hsz] at this
    simpa using this
  refine ⟨he,d'.toList,hperm, ?_, ?_,sort_grown _ _ _⟩
  · rw [List.pairwise_iff_getElem]
    intro i j hi hj hij
    have h:=hs i j (Nat.zero_le _) hij (by simp at hj ⊢; omega)
    have hi' : i<d'.size:=by simpa using hi
    have hj' : j<d'.size:=by simpa using hj
    rw [getElem!_pos d' i hi',getElem!_pos d' j hj'] at h
    intro hc
    rw [Array.getElem_toList,Array.getElem_toList] at hc
    rw [(lt_cmpEd _ _).2 hc] at h; cases h
  · refine Own.of_blk ED.k (sort_heap n d' os hB) ?_ ?_ ?_ hcm hbg
    · simp [Go.Sort.putCells,hcs]
    · have hl : d'.toList.length=l.length:=by simpa using hsz
      simp only [hl]
      apply List.ext_getElem?
      intro j
      rw [List.getElem?_take]
      split
      · rename_i hj
        have hj' : j<d'.size * 4:=by omega
        rw [flat4_get d' hj',Array.getElem?_toList]
        have hjc : j<cur.size:=by rw [hcs]; have:=Nat.mul_le_mul_right 4 hlc; omega
        simp only [Go.Sort.putCells,Array.getElem?_mapIdx,Array.getElem?_eq_getElem hjc,Option.map_some,Go.Sort.size_flatK]
        rw [if_pos ⟨Nat.zero_le _,by omega⟩,Nat.sub_zero,Go.Sort.get_flatK _ _ _ _ hj']; rfl
      · rename_i hj
        rw [List.getElem?_eq_none]
        rw [flat_len ED.k,hl]; omega
    · simp [hsz]; exact hlc
theorem isort_nil (fv : Value) (w : World) : Calls Try.prog 57 #[.slice none 0 0,.int .i64 0,.int .i64 0,fv] w fun e w'=>e = .returned (.tuple #[])∧w=w':=by
  go_enter Try.func57,Try.ntmps57
  go_wp2_with fail
  refine wp_loop_rounds 1 ?_
  rw [rounds_succ]
  go_wp2_with fail
  go_end0
  exact ⟨rfl,rfl⟩
theorem pdq_nil (fv : Value) (lim : Int) (w : World) : Calls Try.prog 49 #[.slice none 0 0,.int .i64 0,.int .i64 0,.int .i64 lim,fv] w fun e w'=>e = .returned (.tuple #[])∧w=w':=by
  go_enter Try.func49,Try.ntmps49
  go_wp2_with fail
  refine wp_loop_rounds 1 ?_
  rw [rounds_succ]
  go_wp2_with (go_at_call 57; refine (isort_nil _ _).mono ?_; rintro e w' ⟨rfl,rfl⟩)
  (try simp only [Exit.inBlock,Exit.then])
  refine bodyPost_ret (results_none rfl _ _ _) rfl ?_
  exact ⟨rfl,rfl⟩
theorem sort_nil (fv : Value) (w : World) : Calls Try.prog 29 #[.slice none 0 0,fv] w fun e w'=>e = .returned (.tuple #[])∧w=w':=by
  have hl : ∀ W,Calls Try.prog 50 #[.int .u64 0] W fun e w'=>e = .returned (.int .i64 (Lib.bitLen 0 : Nat))∧w'=W:=fun W=>by
    have h:=Any.bits_Len (SlLaysF0.n15.bits (P:=Try.prog) (ρ:=Try.sortEdge_ren) { Try.sortEdge with }) 0 W (by omega) (by omega)
    exact h
  go_enter Try.func29,Try.ntmps29
  go_wp2_with (first | (go_at_call 50; refine (hl _).mono ?_; rintro e w' ⟨rfl,rfl⟩) | (go_at_call 49; refine (pdq_nil _ _ _).mono ?_; rintro e w' ⟨rfl,rfl⟩))
  go_end0
  exact ⟨rfl,rfl⟩
/-- The sort, at nil too. -/
theorem sort_edge (s : Sl ED) (base : Nat) (w : World) (hown : Own base 44 4 ED.enc w s) (hlen : s.l.length≤100000) :
    Calls Try.prog 29 #[.slice s.A s.l.length s.c,.func (.func 30) #[] #[]] w fun e w'=>e = .returned (.tuple #[]) ∧
      ∃ l',l'.Perm s.l∧l'.Pairwise (fun a b=>¬ ltE b a)∧Own base 44 4 ED.enc w' ⟨s.A,s.c,l'⟩∧w.grownBy w' (Value.slice s.A s.l.length s.c).ownBlock:=by
  rcases hown.form with ⟨hA,hc,hl⟩ | ⟨g,hA,_⟩
  · obtain ⟨A,c,l⟩:=s
    simp only at hA hc hl
    subst hA hc hl
    refine (sort_nil _ w).mono ?_
    rintro e w' ⟨rfl,rfl⟩
    exact ⟨rfl,[],List.Perm.refl _,List.Pairwise.nil,Own.nil _ _ _ _ _,⟨rfl,rfl,rfl,Nat.le_refl _,fun _ _ _=>rfl⟩⟩
  · refine (sort_edge_laid s base g w hown hA hlen).mono ?_
    rintro e w' ⟨he,l',h1,h2,h3,h4⟩
    exact ⟨he,l',h1,h2,h3,by rw [hA]; exact h4⟩
end Go.Proofs.Ytlbihfbeamlacaa
