/- Walks: the law's in, the reference's Ints and nodes and Few. -/
import Derived.Test.YtmomlipmpgcheaaGreatDoorWbxbn
set_option linter.unusedSimpArgs false
set_option linter.unusedVariables false
set_option maxRecDepth 100000
set_option maxHeartbeats 6400000
namespace Go.Proofs.YtmomlipmpgcheaaGreatDoor
open Go.RowKit
theorem take_succ_eq {α : Type} {l m : List α} {k : Nat} {x : α} (h : l.take k=m.take k) (hl : l[k]? = some x) (hm : m[k]? = some x) : l.take (k+1)=m.take (k+1):=by
  rw [List.take_add_one,List.take_add_one,h,hl,hm]
theorem take_ne {α : Type} {l m : List α} {k : Nat} {x y : α} (hl : l[k]? = some x) (hm : m[k]? = some y) (hxy : x≠y) : l≠m:=by
  rintro rfl
  rw [hl] at hm
  injection hm with h
  exact hxy h
theorem r46_Ints (a b : Sl Int) (w : World) (ha : Rd (· < w.heap.size) 1 ienc w a) (hb : Rd (· < w.heap.size) 1 ienc w b) : Calls Tryz.prog 17 #[.slice a.A a.l.length a.c,.slice b.A b.l.length b.c] w fun e w'=>e = .returned (.bool (decide (a.l=b.l)))∧Below w.heap.size w w':=by
  have hn:=ha.len
  have hn2:=hb.len
  have HA:=Lib.hid ha
  have HB:=Lib.hid hb
  clear ha hb
  obtain ⟨A,c,l⟩:=a
  obtain ⟨B,d,m⟩:=b
  simp only at hn hn2 ⊢
  by_cases hlen : l.length=m.length
  · go_enter Tryz.func17,Tryz.ntmps17
    go_wp2_with fail
    have HLN:=Lib.hid hlen
    clear hlen
    go_loopw [5] (fun i wr=>∃ (k : Nat),k≤l.length∧i = .int .i64 k∧l.take k=m.take k∧Below w.heap.size w wr) (fun i _=>l.length - (intOf i).toNat)
    case atStart=>exact ⟨0,by omega,rfl,rfl,qbl⟩
    case round =>
      obtain ⟨k,hk,rfl,htk,hbel⟩:=hrel
      by_cases hlt : k<l.length
      · have hlt2 : k<m.length:=by have:=HLN.out; omega
        obtain ⟨b,o,hA,hb,hcl⟩:=HA.out.at1 hlt
        obtain ⟨b',o',hB,hb',hcl'⟩:=HB.out.at1 hlt2
        have hc1:=hcl.keep (hbel.block b hb)
        have hc2:=hcl'.keep (hbel.block b' hb')
        simp only at hA hB hc1 hc2
        have HL:=Lib.hid (List.getElem?_eq_getElem hlt)
        have HM:=Lib.hid (List.getElem?_eq_getElem hlt2)
        clear hcl hcl'
        subst hA hB
        generalize l[k]=x at *
        generalize m[k]=y at *
        rw [Nat.mul_one] at hc1 hc2
        have g0:=Cells.c1 hc1
        have k0:=Cells.c1 hc2
        clear hc1 hc2
        have HTK:=Lib.hid htk
        clear htk
        by_cases hxy : x=y
        · subst hxy
          go_wp2_with fail
          refine wp_region_T (fun W=>W.cell? ⟨b,o+k,none⟩=some (.int .i64 x)∧W.cell? ⟨b',o'+k,none⟩=some (.int .i64 x)) (fun _=>false) (by kernel_rfl) ⟨g0,k0⟩ (fun hHeld=>?_)
          refine qtq 0 ?_
          simp only [qsa,qsb,qsc]
          refine qtq 1 ?_
          simp only [qsa,qsb,qsc]
          refine qtq 2 ?_
          simp only [qsa,qsb,qsc]
          refine qtq 3 ?_
          simp only [qsa,qsb,qsc]
          refine qtq 4 ?_
          simp only [qsa,qsb,qsc]
          refine qtq 5 ?_
          simp only [qsa,qsb,qsc]
          refine qtq 6 ?_
          simp only [qsa,qsb,qsc]
          refine qtq 7 ?_
          simp only [qsa,qsb,qsc]
          clear hHeld
          have hHeld:=And.intro g0 k0
          refine wpAnyT_take2 (i:=8) (v:=.bool false) rfl rfl (by kernel_rfl) (by kernel_rfl) (by kernel_rfl) (by kernel_rfl) (fun _ _ _ h=>h) (Or.inl ⟨by rfl, ?_⟩) (by first | assumption | trivial) ?_
          · (intro w hSw; (try dsimp only at hSw); go_simp) <;> (first | (with_reducible rfl) | assumption | (simp; done) | (simp [*]; done) | (simp; omega))
          simp only [qsa,qsb,qsc]
          refine wpAnyT_done (by kernel_rfl) ?_ _
          clear hHeld
          go_wp2_with fail
          go_roundw
          case rel=>exact ⟨k+1,by omega,by go_num,take_succ_eq HTK.out HL.out HM.out,Below.drew hbel⟩
          case measure=>simp [intOf]; omega
        · have HNE:=Lib.hid (take_ne HL.out HM.out hxy)
          have hxb : (x == y)=false:=by simpa using hxy
          go_wp2_with fail
          refine wp_region_T (fun W=>W.cell? ⟨b,o+k,none⟩=some (.int .i64 x)∧W.cell? ⟨b',o'+k,none⟩=some (.int .i64 y)) (fun _=>false) (by kernel_rfl) ⟨g0,k0⟩ (fun hHeld=>?_)
          refine qtq 0 ?_
          simp only [qsa,qsb,qsc]
          refine qtq 1 ?_
          simp only [qsa,qsb,qsc]
          refine qtq 2 ?_
          simp only [qsa,qsb,qsc]
          refine qtq 3 ?_
          simp only [qsa,qsb,qsc]
          refine qtq 4 ?_
          simp only [qsa,qsb,qsc]
          refine qtq 5 ?_
          simp only [qsa,qsb,qsc]
          refine qtq 6 ?_
          simp only [qsa,qsb,qsc]
          refine qtq 7 ?_
          simp only [qsa,qsb,qsc]
          clear hHeld
          have hHeld:=And.intro g0 k0
          refine wpAnyT_take2 (i:=8) (v:=.bool true) rfl rfl (by kernel_rfl) (by kernel_rfl) (by kernel_rfl) (by kernel_rfl) (fun _ _ _ h=>h) (Or.inl ⟨by rfl, ?_⟩) (by first | assumption | trivial) ?_
          · (intro w hSw; (try dsimp only at hSw); go_simp) <;> (first | (with_reducible rfl) | assumption | (simp; done) | (simp [*]; done) | (simp; omega))
          simp only [qsa,qsb,qsc]
          refine wpAnyT_done (by kernel_rfl) ?_ _
          clear hHeld
          go_wp2_with fail
          go_ret
          exact ⟨ret_bool (decide_eq_false HNE.out).symm,Below.drew hbel⟩
      · have hlt3 : ¬ k<m.length:=by have:=HLN.out; omega
        have HEQ : Hid (l=m):=Lib.hid (by
          have:=HLN.out
          rw [List.take_of_length_le (by omega),List.take_of_length_le (by omega)] at htk
          exact htk)
        go_wp2_with fail
        go_ret
        exact ⟨ret_bool (decide_eq_true HEQ.out).symm,hbel⟩
  · have HNE : Hid (l≠m):=Lib.hid (fun e=>hlen (by rw [e]))
    have hln : ((l.length : Int) == (m.length : Int))=false:=by
      have : (l.length : Int)≠m.length:=by omega
      simpa using this
    go_enter Tryz.func17,Tryz.ntmps17
    go_wp2_with fail
    go_ret
    exact ⟨ret_bool (decide_eq_false HNE.out).symm,qbl⟩
theorem law_in (a : Sl Int) (n : Int) (w : World) (ha : Rd (· < w.heap.size) 1 ienc w a) : Calls Tryz.prog 26 #[.slice a.A a.l.length a.c,.int .i64 n] w fun e w'=>e = .returned (.bool (decide (n ∈ a.l)))∧Below w.heap.size w w':=by
  have hn:=ha.len
  have HA:=Lib.hid ha
  clear ha
  obtain ⟨A,c,l⟩:=a
  simp only at hn ⊢
  go_enter Tryz.func26,Tryz.ntmps26
  go_wp2_with fail
  go_loopw [5] (fun i wr=>∃ (k : Nat),k≤l.length∧i = .int .i64 k∧Hid (n ∉ l.take k)∧Below w.heap.size w wr) (fun i _=>l.length - (intOf i).toNat)
  case atStart=>exact ⟨0,by omega,rfl,Lib.hid (by simp),qbl⟩
  case round =>
    obtain ⟨k,hk,rfl,HN,hbel⟩:=hrel
    by_cases hlt : k<l.length
    · obtain ⟨b,o,hA,hb,hcl⟩:=HA.out.at1 hlt
      have hc1:=hcl.keep (hbel.block b hb)
      simp only at hA hc1
      have HTK : Hid (l.take (k+1)=l.take k ++ [l[k]]):=Lib.hid (by rw [List.take_add_one,List.getElem?_eq_getElem hlt]; rfl)
      have HM : Hid (l[k] ∈ l):=Lib.hid (List.getElem_mem hlt)
      clear hcl
      subst hA
      generalize l[k]=x at *
      rw [Nat.mul_one] at hc1
      have g0:=Cells.c1 hc1
      clear hc1
      by_cases hxy : x=n
      · subst hxy
        go_wp2_with fail
        go_ret
        exact ⟨ret_bool (decide_eq_true HM.out).symm,hbel⟩
      · have hxb : (x == n)=false:=by simpa using hxy
        have HN2 : Hid (n ∉ l.take (k+1)):=Lib.hid (by
          rw [HTK.out,List.mem_append,List.mem_singleton]
          rintro (h | h)
          · exact HN.out h
          · exact hxy h.symm)
        clear hxy
        go_wp2_with fail
        go_roundw
        case rel=>exact ⟨k+1,by omega,by go_num,HN2,hbel⟩
        case measure=>simp [intOf]; omega
    · have hkl : k=l.length:=by omega
      have HN2 : Hid (n ∉ l):=Lib.hid (by have h:=HN.out; rwa [hkl,List.take_length] at h)
      clear hkl
      go_wp2_with fail
      go_ret
      exact ⟨ret_bool (decide_eq_false HN2.out).symm,hbel⟩
def NodQ (w w' : World) (m : Nat) (r : Ending) : Prop:=∃ k : Int,r = .returned (.int .i64 k)∧1≤k∧k≤m+230584300921369397∧Below w.heap.size w w'
def NodI (m : Nat) : Prop:=∀ (e : PT) (W : World),PT.At (· < W.heap.size) W e→Calls Tryz.prog 29 #[e.v,.int .i64 m] W fun r w'=>NodQ W w' m r
theorem nodes_46 (m : Nat) (hm : m≤20) (ih : ∀ m',m'<m→NodI m') : NodI m:=by
  rintro ⟨o,a,u,s,A,c,l⟩ w he
  have HE:=Lib.hid he
  have hsz:=he.str
  have hln:=he.rd.len
  simp only [PT.s,PT.a] at hsz hln
  clear he
  simp only [PT.v]
  have hq0 : (0 : Int)≤(s.size : Int).tdiv 40:=Int.tdiv_nonneg (by omega) (by omega)
  have hq1 : (s.size : Int).tdiv 40≤230584300921369396:=by rw [Int.tdiv_eq_ediv_of_nonneg (by omega)]; omega
  go_enter Tryz.func29,Tryz.ntmps29
  go_wp2_with fail
  have HB1 : Hid (Below w.heap.size w (w.alloc (.cells #[.int .i64 o,.int .i64 a,.int .i64 u,.string s,.slice A l.length c] 25))):=Lib.hid qbl
  have HX1 : Hid (Blk (w.alloc (.cells #[.int .i64 o,.int .i64 a,.int .i64 u,.string s,.slice A l.length c] 25)) w.heap.size 25 #[.int .i64 o,.int .i64 a,.int .i64 u,.string s,.slice A l.length c]):=Lib.hid (Blk.new _ _ _)
  generalize w.alloc (.cells #[.int .i64 o,.int .i64 a,.int .i64 u,.string s,.slice A l.length c] 25)=w1 at *
  go_loopw [5,6] (fun n i wr=>∃ (j : Nat) (k : Int),j≤l.length∧i = .int .i64 j∧n = .int .i64 k∧1≤k∧k≤m+230584300921369397∧Below w1.heap.size w1 wr) (fun _ i _=>l.length - (intOf i).toNat)
  case atStart=>exact ⟨0,_,by omega,rfl,rfl,by omega,by omega,Below.refl _ _⟩
  case round =>
    obtain ⟨j,k,hj,rfl,rfl,hk0,hk1,hbel⟩:=hrel
    have HBR : Hid (Below w.heap.size w wr):=Lib.hid (HB1.out.trans (hbel.mono HB1.out.size))
    have HXR:=Lib.hid (HX1.out.later hbel)
    obtain ⟨a0,a1,a2,a3,a4,af,az⟩:=HXR.out.b5
    by_cases hlt : j<l.length
    · by_cases hkm : k≤m
      · have hEW:=HE.out.later HBR.out
        obtain ⟨b,q,hA,hbl,hcl⟩:=hEW.rd.at1 hlt
        have HX:=Lib.hid (hEW.all _ (List.getElem_mem hlt))
        simp only [PT.a] at hA hcl HX
        clear hEW
        generalize l[j]=x at *
        obtain ⟨xo,xm,xu,xs,xA,xc,xl⟩:=x
        obtain ⟨g0,g1,g2,g3,g4⟩:=Cells.c5 hcl
        clear hcl
        subst hA
        obtain ⟨d,hd⟩ : ∃ d : Nat,(m : Int) - k=(d : Int):=⟨((m : Int) - k).toNat,by omega⟩
        have hcall:=ih d (by omega) ⟨xo,xm,xu,xs,xA,xc,xl⟩ wr HX.out
        simp only [PT.v] at hcall
        have hj8 : (j : Int)<(l.length : Int):=by omega
        go_wp2_with (simp only [hd])
        refine hcall.mono ?_
        clear hcall
        rintro e w2 ⟨k2,rfl,hk20,hk21,hb2⟩
        have HB2 : Hid (Below w1.heap.size w1 w2):=Lib.hid (hbel.trans (hb2.mono hbel.size))
        clear hb2 g0 g1 g2 g3 g4 a0 a1 a2 a3 a4 af az
        go_wp2_with fail
        go_roundw
        case rel=>exact ⟨j+1,k+k2,by omega,by go_num,by go_num,by omega,by omega,HB2.out⟩
        case measure=>simp [intOf]; omega
      · go_wp2_with fail
        go_ret
        exact ⟨k,rfl,hk0,hk1,HBR.out⟩
    · go_wp2_with fail
      go_ret
      exact ⟨k,rfl,hk0,hk1,HBR.out⟩
theorem nodes_all : ∀ m : Nat,m≤20→NodI m:=by
  intro m
  induction m using Nat.strongRecOn with
  | _ m ih=>exact fun h=>nodes_46 m h fun m' hlt=>ih m' hlt (by omega)
theorem byl_c1 (b : Byl) : ∃ cs,b.v = .agg cs∧cs.size=25∧cs[1]? = some (.slice b.lets.A b.lets.l.length b.lets.c):=by
  obtain ⟨nm,⟨LA,Lc,L⟩,⟨o,n,u,s,A,c1,l⟩,⟨o2,n2,u2,s2,A2,c2,l2⟩,⟨o3,n3,u3,s3,A3,c3,l3⟩,⟨o4,n4,u4,s4,A4,c4,l4⟩,q,sh,ch⟩:=b
  exact ⟨_,rfl,rfl,rfl⟩
def FewP46 (w w' : World) (L : List LT) (l : List TH) (r : Ending) : Prop:=∃ t,r = .returned (.bool t)∧(t=true→L.length≤3∧l.length≤4∧∀ x,x ∈ l→x.o.l.length≤2)∧Below w.heap.size w w'
theorem few_46 (b : Byl) (e : PT) (l : Sl TH) (w : World) (hb : Byl.At (· < w.heap.size) w b) (he : PT.At (· < w.heap.size) w e) (hl : ThsAt (· < w.heap.size) w l) :
    Calls Tryz.prog 9 #[b.v,e.v,.slice l.A l.l.length l.c] w fun r w'=>FewP46 w w' b.lets.l l.l r:=by
  have hLs:=hb.lets
  have HLS:=Lib.hid hLs
  have hn:=hl.rd.len
  have hnL:=hLs.rd.len
  have HL:=Lib.hid hl
  have HE:=Lib.hid he
  obtain ⟨cs,hcs,hsz,hc1⟩:=byl_c1 b
  rw [hcs]
  clear hb hl he hLs hcs
  generalize b.lets=Ls at *
  obtain ⟨LA,Lc,L⟩:=Ls
  obtain ⟨A,c,l⟩:=l
  simp only at hn hnL hc1 ⊢
  obtain ⟨o,n,u,s,xA,xc,xl⟩:=e
  simp only [PT.v]
  have hb2 : Below w.heap.size w ((w.alloc (.cells cs 29)).alloc (.cells #[.int .i64 o,.int .i64 n,.int .i64 u,.string s,.slice xA xl.length xc] 25)):=qbl
  have hX : Blk ((w.alloc (.cells cs 29)).alloc (.cells #[.int .i64 o,.int .i64 n,.int .i64 u,.string s,.slice xA xl.length xc] 25)) w.heap.size 29 cs:=(Blk.new _ _ _).alloc _
  have hY : Blk ((w.alloc (.cells cs 29)).alloc (.cells #[.int .i64 o,.int .i64 n,.int .i64 u,.string s,.slice xA xl.length xc] 25)) (w.heap.size+1) 25 #[.int .i64 o,.int .i64 n,.int .i64 u,.string s,.slice xA xl.length xc]:=Blk.new' (by simp)
  have HB2:=Lib.hid hb2
  have HX:=Lib.hid hX
  have HY:=Lib.hid hY
  have x1:=(hX.cell 1).trans hc1
  clear hb2 hX hY
  by_cases hL3 : (3 : Int)<(L.length : Int)
  · go_enter Tryz.func9,Tryz.ntmps9
    go_wp2_with fail
    go_ret
    exact ⟨false,rfl,by simp,HB2.out⟩
  · go_enter Tryz.func9,Tryz.ntmps9
    go_wp2_with fail
    generalize ((w.alloc (.cells cs 29)).alloc (.cells #[.int .i64 o,.int .i64 n,.int .i64 u,.string s,.slice xA xl.length xc] 25))=w2 at *
    have hcall:=nodes_all 15 (by omega) ⟨o,n,u,s,xA,xc,xl⟩ w2 (HE.out.later HB2.out)
    simp only [PT.v] at hcall
    refine hcall.mono ?_
    clear hcall
    rintro r w3 ⟨k,rfl,hk1,hk2,hb3⟩
    have HB3:=Lib.hid (HB2.out.trans (hb3.mono HB2.out.size))
    replace x1:=keep_cell hb3 x1
    clear hb3 HB2
    by_cases hk15 : (15 : Int)<k
    · go_wp2_with fail
      go_ret
      exact ⟨false,rfl,by simp,HB3.out⟩
    by_cases hl4 : (4 : Int)<(l.length : Int)
    · go_wp2_with fail
      go_ret
      exact ⟨false,rfl,by simp,HB3.out⟩
    clear hk1 hk2
    go_wp2_with fail
    go_loopw [7] (fun iv wr=>∃ (k : Nat),k≤L.length∧iv = .int .i64 k∧Hid (Below w3.heap.size w3 wr)) (fun iv _=>L.length - (intOf iv).toNat)
    case atStart=>exact ⟨0,by omega,rfl,Lib.hid (Below.refl _ _)⟩
    case round =>
      obtain ⟨j,hj,rfl,HB⟩:=hrel
      have x1':=keep_cell HB.out x1
      have hbw:=HB3.out.trans (HB.out.mono HB3.out.size)
      have HBW:=Lib.hid hbw
      clear hbw
      by_cases hlt : j<L.length
      · have hLW:=HLS.out.later HBW.out
        obtain ⟨b,q,hA,hbl,hcl⟩:=hLW.rd.at1 hlt
        have HX9:=Lib.hid (hLW.all _ (List.getElem_mem hlt))
        simp only at hA hcl HX9
        subst hA
        clear hLW
        generalize L[j]=x at *
        obtain ⟨xn,yo,ym,yu,ys,yA,yc,yl⟩:=x
        have hsn:=HX9.out.nm
        simp only at hsn
        obtain ⟨g0,g1,g2,g3,g4,g5⟩:=Cells.c6 hcl
        clear hcl
        have hj8 : (j : Int)<(L.length : Int):=by omega
        by_cases h40 : (40 : Int)<(xn.size : Int)
        · go_wp2_with fail
          go_ret
          exact ⟨false,rfl,by simp,HBW.out⟩
        · go_wp2_with fail
          have hcall:=nodes_all 9 (by omega) ⟨yo,ym,yu,ys,yA,yc,yl⟩ wr HX9.out.b
          simp only [PT.v] at hcall
          refine hcall.mono ?_
          clear hcall
          rintro r w4 ⟨k2,rfl,hk1,hk2,hb4⟩
          have HB4:=Lib.hid (HB.out.trans (hb4.mono HB.out.size))
          have HBW4:=Lib.hid (HBW.out.trans (hb4.mono HBW.out.size))
          clear hb4 g0 g1 g2 g3 g4 g5 HBW HB x1'
          by_cases hk9 : (9 : Int)<k2
          · go_wp2_with fail
            go_ret
            exact ⟨false,rfl,by simp,HBW4.out⟩
          · go_wp2_with fail
            go_roundw
            case rel=>exact ⟨j+1,by omega,by go_num,HB4⟩
            case measure=>simp [intOf]; omega
      · clear x1 HX HY
        go_wp2_with fail
        have HBW2:=Lib.hid HBW.out
        go_loopw [8] (fun iv wq=>∃ (k : Nat),k≤l.length∧iv = .int .i64 k∧Hid (∀ x,x ∈ l.take k→x.o.l.length≤2)∧Hid (Below w.heap.size w wq)) (fun iv _=>l.length - (intOf iv).toNat)
        case atStart=>exact ⟨0,by omega,rfl,Lib.hid (fun x hx=>by simp at hx),HBW⟩
        case round =>
          clear HBW HBW2 HB
          obtain ⟨i,hi,rfl,HTW,HB⟩:=hrel
          by_cases hlt2 : i<l.length
          · obtain ⟨bb,oo,hA,hbb,hcl⟩:=(HL.out.later HB.out).rd.at1 hlt2
            simp only at hA hbb hcl
            have hat:=(HL.out.all _ (List.getElem_mem hlt2)).nm
            have HTK : Hid (l.take (i+1)=l.take i ++ [l[i]]):=Lib.hid (by rw [List.take_add_one,List.getElem?_eq_getElem hlt2]; rfl)
            generalize l[i]=y at *
            obtain ⟨ym,yn,yv,⟨yA,yc,yl⟩⟩:=y
            obtain ⟨g0,g1,g2,g3⟩:=Cells.c4 hcl
            simp only at g0 g1 g2 g3 hat
            clear hcl
            subst hA
            have hi8 : (i : Int)<(l.length : Int):=by omega
            by_cases h40 : (40 : Int)<(yn.size : Int)
            · go_wp2_with fail
              go_ret
              exact ⟨false,rfl,by simp,HB.out⟩
            by_cases h2 : (2 : Int)<(yl.length : Int)
            · go_wp2_with fail
              go_ret
              exact ⟨false,rfl,by simp,HB.out⟩
            have HTW2 : Hid (∀ x,x ∈ l.take (i+1)→x.o.l.length≤2):=Lib.hid (fun x hx=>by
              rw [HTK.out,List.mem_append,List.mem_singleton] at hx
              rcases hx with hx | rfl
              · exact HTW.out x hx
              · show yl.length≤2
                omega)
            go_wp2_with fail
            go_roundw
            case rel=>exact ⟨i+1,by omega,by go_num,HTW2,HB⟩
            case measure=>simp [intOf]; omega
          · have hil : i=l.length:=by omega
            have HTW2 : Hid (∀ x,x ∈ l→x.o.l.length≤2):=Lib.hid (fun x hx=>HTW.out x (by rw [hil,List.take_length]; exact hx))
            have HL3 : Hid (L.length≤3∧l.length≤4):=Lib.hid (by omega)
            clear hil
            go_wp2_with fail
            go_ret
            exact ⟨true,rfl,fun _=>⟨HL3.out.1,HL3.out.2,HTW2.out⟩,HB.out⟩
end Go.Proofs.YtmomlipmpgcheaaGreatDoor
