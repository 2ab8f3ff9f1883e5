/- Walks: the reference's FewCases; tonneaulaw35's cases, trip. -/
import Derived.Test.YtpbdjpfbhicmdaaGreatDoorCbxbp
import Derived.Test.YtpbdjpfbhicmdaaGreatDoorCbxbn
set_option linter.unusedSimpArgs false
set_option linter.unusedVariables false
set_option maxRecDepth 100000
set_option maxHeartbeats 6400000
namespace Go.Proofs.YtpbdjpfbhicmdaaGreatDoor
open Go.RowKit
theorem infoCase : Info Tryz.prog 60 (.agg #[.slice none 0 0,.slice none 0 0,.int .i64 0]) 3 56:=info_mk (by kernel_rfl) rfl
theorem wpl_load_rowW {P : Program} {ops : Array Oper} {rest : List Oper} {o : Oper} {a : Act} {w : World} {Q : Exit→Act→World→Prop} (hw : Region.wanted o (yielded ops a.tmps)=true) (ty : TypeId) (x : Operand) (ho : o.op = .load ty x)
    (g : Nat) (hx : a.eval x = .pointer (some ⟨g,0,none⟩)) (t : TypeId) (cs : Array Value) (fr : Nat × Nat) (d : TypeDesc) (hg : w.heap[g]? = some (.cells cs t fr))
    (hu : P.underlying ty=some d) (hd : (match d with | .struct _ | .array _ _=>true | _=>false)=true) (hi : (P.info? ty).map (·.size)=some cs.size)
    (h : wpList P ops Q rest (a.put o.dst (.agg cs)) w) : wpList P ops Q (o :: rest) a w :=
  wpList_step fun _ hK=>by rw [if_pos hw]; exact wp_load_row ty x ho g hx t cs fr d hg hu hd hi (hK _ _ h)
theorem r35_FewCases (b : Byl) (l : Sl CS) (w : World) (hb : Byl.At (· < w.heap.size) w b) (hl : CasesAt (· < w.heap.size) w l) :
    Calls Tryz.prog 9 #[b.v,.slice l.A l.l.length l.c] w fun r w'=>FewP w w' (l.l.length≤8∧(l.l≠[]→b.lets.l.length≤6)∧∀ x,x ∈ l.l→x.T.l.length≤20∧x.M.l.length≤20) r:=by
  have HP:=Lib.hid hb
  have HL:=Lib.hid hl
  have hn:=hl.rd.len
  clear hb hl
  obtain ⟨A,c,l⟩:=l
  simp only at hn ⊢
  have HF30:=Lib.hid (fun W (hW : Below w.heap.size w W)=>few30 b W (HP.out.later hW))
  obtain ⟨nm,ls,ea,eb,ec,ed,q,sh,ch⟩:=b
  rw [byl_v] at HF30 ⊢
  have HLS : Hid (LetsAt (· < w.heap.size) w ls):=Lib.hid HP.out.lets
  have HB0 : Hid (Below w.heap.size w (w.alloc (.cells (byE nm (slV ls) ea eb ec ed q sh ch) 28))):=Lib.hid qbl
  have HX0 : Hid (Blk (w.alloc (.cells (byE nm (slV ls) ea eb ec ed q sh ch) 28)) w.heap.size 28 (byE nm (slV ls) ea eb ec ed q sh ch)):=Lib.hid (Blk.new _ _ _)
  go_enter Tryz.func9,Tryz.ntmps9
  go_wp2_with fail
  generalize w.alloc (.cells (byE nm (slV ls) ea eb ec ed q sh ch) 28)=w0 at *
  go_loopw [5] (fun i wr=>∃ (k : Nat),k≤l.length∧k≤9∧i = .int .i64 k∧Hid (Below w.heap.size w wr)∧Hid (Blk wr w.heap.size 28 (byE nm (slV ls) ea eb ec ed q sh ch))∧Hid (∀ j x,j<k→l[j]? = some x→ls.l.length≤6∧x.T.l.length≤20∧x.M.l.length≤20)) (fun i _=>l.length - (intOf i).toNat)
  case atStart=>exact ⟨0,by omega,by omega,rfl,HB0,HX0,Lib.hid (fun j x hj=>absurd hj (by omega))⟩
  case round =>
    obtain ⟨k,hk,hk9,rfl,HB,HX,HG⟩:=hrel
    clear HB0 HX0
    by_cases hlt : k<l.length
    · by_cases h8 : k≤8
      · obtain ⟨bb,oo,hA,hbb,hcl⟩:=HL.out.rd.at1 hlt
        simp only at hA hbb hcl
        have hcl2:=hcl.keep (HB.out.block bb hbb)
        have hat:=HL.out.all l[k] (List.getElem_mem hlt)
        have HLK:=Lib.hid (List.getElem?_eq_getElem hlt)
        clear hcl
        generalize l[k]=x at *
        have HAT:=Lib.hid hat
        clear hat
        obtain ⟨⟨TA,Tc,T⟩,⟨MA,Mc,M⟩,f⟩:=x
        obtain ⟨g0,g1,g2⟩:=Cells.c3 hcl2
        simp only at g0 g1 g2
        clear hcl2
        have hki : (k : Int)<(l.length : Int):=by omega
        have h8i : (k : Int)≤8:=by omega
        subst hA
        have x1 : wr.cell? ⟨w.heap.size,1,none⟩=some (.slice ls.A ls.l.length ls.c):=HX.out.cell 1
        have hk1:=few32 ls ⟨TA,Tc,T⟩ ⟨MA,Mc,M⟩ wr.drew (HLS.out.later (Below.drew HB.out)) (HAT.out.T.later (Below.drew HB.out)) (HAT.out.M.later (Below.drew HB.out))
        have HK1:=Lib.hid hk1
        clear hk1
        go_wp2_with fail
        refine wp_region_T (fun W=>W.cell? ⟨w.heap.size,1,none⟩=some (.slice ls.A ls.l.length ls.c)∧W.cell? ⟨bb,oo+k * 3,none⟩=some (.slice TA T.length Tc)∧W.cell? ⟨bb,oo+k * 3+1,none⟩=some (.slice MA M.length Mc)) (fun _=>false) (by kernel_rfl) ⟨x1,g0,g1⟩ (fun hHeld=>?_)
        refine qtq 0 ?_
        simp only [qsa,qsb,qsc]
        refine qtq 1 ?_
        simp only [qsa,qsb,qsc]
        refine qtq 2 ?_
        simp only [qsa,qsb,qsc]
        refine qtq 3 ?_
        simp only [qsa,qsb,qsc]
        refine qtq 4 ?_
        simp only [qsa,qsb,qsc]
        refine qtq 5 ?_
        simp only [qsa,qsb,qsc]
        refine qtq 6 ?_
        simp only [qsa,qsb,qsc]
        refine qtq 7 ?_
        simp only [qsa,qsb,qsc]
        refine qtq 8 ?_
        simp only [qsa,qsb,qsc]
        refine qtq 9 ?_
        simp only [qsa,qsb,qsc]
        refine qtq 10 ?_
        simp only [qsa,qsb,qsc]
        refine qtq 11 ?_
        simp only [qsa,qsb,qsc]
        clear hHeld
        refine wpAnyT_next (i:=12) (by kernel_rfl) rfl ?_
        go_wp2_with fail
        refine HK1.out.mono ?_
        rintro r w2 ⟨t,rfl,ht,hb2⟩
        have HT:=Lib.hid ht
        have hbd : Below w.heap.size w w2:=(Below.drew HB.out).trans (hb2.mono (Below.drew HB.out).size)
        have HX2:=Lib.hid (HX.out.drew.later hb2)
        have HB2:=Lib.hid hbd
        have hs2:=And.intro (keep_cell hb2 (show wr.drew.cell? _=_ from x1)) (And.intro (keep_cell hb2 (show wr.drew.cell? _=_ from g0)) (keep_cell hb2 (show wr.drew.cell? _=_ from g1)))
        clear ht hb2 hbd HK1 x1 g0 g1 g2
        go_wp2_with fail
        refine And.intro (by first | exact hs2 | exact fun _=>hs2) ?_
        have hHeld:=hs2
        refine qtq 13 ?_
        simp only [qsa,qsb,qsc]
        refine wpAnyT_done (by kernel_rfl) ?_ _
        clear hHeld
        clear hs2
        rcases t with _ | _
        · go_wp2_with fail
          go_ret
          exact ⟨false,rfl,(fun h=>by cases h),HB2.out⟩
        · have HTT:=Lib.hid (HT.out rfl)
          go_wp2_with fail
          go_roundw
          case rel=>exact ⟨k+1,by omega,by omega,by go_num,HB2,HX2,Lib.hid (fun j y hj hy=>by
            rcases Nat.lt_succ_iff_lt_or_eq.1 hj with h | rfl
            · exact HG.out j y h hy
            · rw [HLK.out] at hy
              injection hy with hy
              rw [← hy]; exact HTT.out)⟩
          case measure=>simp [intOf]; omega
      · have h8i : ¬ (k : Int)≤8:=by omega
        have h8l : ¬ (l.length : Int)≤8:=by omega
        have hki : (k : Int)<(l.length : Int):=by omega
        go_wp2_with fail
        go_ret
        exact ⟨false,rfl,(fun h=>by cases h),HB.out⟩
    · have hke : k=l.length:=by omega
      have hki : ¬ (k : Int)<(l.length : Int):=by omega
      have HF : Hid ((l≠[]→ls.l.length≤6)∧∀ x,x ∈ l→x.T.l.length≤20∧x.M.l.length≤20):=Lib.hid (by
        have hall : ∀ x,x ∈ l→ls.l.length≤6∧x.T.l.length≤20∧x.M.l.length≤20:=fun x hx=>by
          obtain ⟨j,hj⟩:=List.getElem?_of_mem hx
          exact HG.out j x (by rw [hke]; exact (List.getElem?_eq_some_iff.1 hj).1) hj
        refine ⟨fun hne=>?_,fun x hx=>(hall x hx).2⟩
        rcases l with _ | ⟨y,l⟩
        · exact absurd rfl hne
        · exact (hall y (by simp)).1)
      clear hke HG
      by_cases h8 : l.length≤8
      · have h8i : (l.length : Int)≤8:=by omega
        have HK1:=Lib.hid (HF30.out wr HB.out)
        go_wp2_with (refine wpl_load_rowW rfl 28 (.tmp 2) rfl w.heap.size rfl 28 (byE nm (slV ls) ea eb ec ed q sh ch) (0,0) _ HX.out Tryz.underlying28 rfl (by kernel_rfl) ?_)
        refine HK1.out.mono ?_
        rintro r w2 ⟨t,rfl,hb2⟩
        have HB2:=Lib.hid (HB.out.trans (hb2.mono HB.out.size))
        clear hb2
        go_wp2_with fail
        go_ret
        exact ⟨t,rfl,(fun _=>⟨h8,HF.out.1,HF.out.2⟩),HB2.out⟩
      · have h8i : ¬ (l.length : Int)≤8:=by omega
        go_wp2_with fail
        go_ret
        exact ⟨false,rfl,(fun h=>by cases h),HB.out⟩
def CasP (w w' : World) (l : List CS) (r : Ending) : Prop:=Below w.heap.size w w'∧∃ (A : Option Addr) (c : Nat),r = .returned (.slice A l.length c)∧Own w.heap.size 60 3 CS.enc w' ⟨A,c,l⟩
theorem CasP.at_ {w w' : World} {l : List CS} {A : Option Addr} {c : Nat} (hb : Below w.heap.size w w') (ho : Own w.heap.size 60 3 CS.enc w' ⟨A,c,l⟩) (h : ∀ x,x ∈ l→CS.At (· < w.heap.size) w x) : CasesAt (· < w'.heap.size) w' ⟨A,c,l⟩ :=
  ⟨(ho.rd CS.enc_k).mono fun _ h=>h.2,fun x hx=>(h x hx).later hb⟩
theorem law_trip (d : Int) (w : World) : Calls Tryz.prog 26 #[.int .i64 d] w fun r w'=>FcP w w' (tripL d d 0 60 1 0 0 1) r:=by
  go_enter Tryz.func26,Tryz.ntmps26
  go_wp2_with fail
  refine (fare_Trip 0 0 0 0 0 0 0 1 0 0 d d 0 60 1 w).mono ?_
  rintro r w2 ⟨s,rfl,hs,hat,hb⟩
  have HS:=Lib.hid hs
  clear hs
  go_wp2_with fail
  go_ret
  exact ⟨s,rfl,HS.out,hat,hb⟩
theorem law_cases (l : Sl CS) (w : World) (hl : CasesAt (· < w.heap.size) w l) (hn : l.l.length≤1000000) :
    Calls Tryz.prog 19 #[.slice l.A l.l.length l.c] w fun r w'=>CasP w w' l.l r:=by
  have HL:=Lib.hid hl
  clear hl
  obtain ⟨A,c,l⟩:=l
  simp only at hn ⊢
  go_enter Tryz.func19,Tryz.ntmps19
  go_wp2_with fail
  go_loopw [3,4] (fun o i wr=>∃ (k : Nat) (A : Option Addr) (c : Nat) (out : List CS),k≤l.length∧o = .slice A out.length c∧i = .int .i64 k∧Hid (Below w.heap.size w wr)∧Hid (Own w.heap.size 60 3 CS.enc wr ⟨A,c,out⟩)∧Hid (out=l.take k)) (fun _ i _=>l.length - (intOf i).toNat)
  case atStart=>exact ⟨0,none,0,[],by omega,rfl,rfl,Lib.hid qbl,Lib.hid (Own.nil _ _ _ _ _),Lib.hid rfl⟩
  case round =>
    obtain ⟨k,oA,oc,out,hk,rfl,rfl,HB,HO,HG⟩:=hrel
    have HOL : Hid (out.length=k):=Lib.hid (by rw [HG.out,List.length_take]; omega)
    by_cases hlt : k<l.length
    · obtain ⟨bb,oo,hA,hbb,hcl⟩:=HL.out.rd.at1 hlt
      simp only at hA hbb hcl
      have hcl2:=hcl.keep (HB.out.block bb hbb)
      have HLK:=Lib.hid (List.getElem?_eq_getElem hlt)
      clear hcl
      generalize l[k]=x at *
      obtain ⟨⟨TA,Tc,T⟩,⟨MA,Mc,M⟩,f⟩:=x
      obtain ⟨g0,g1,g2⟩:=Cells.c3 hcl2
      simp only at g0 g1 g2
      clear hcl2
      have hki : (k : Int)<(l.length : Int):=by omega
      subst hA
      go_wp2_with fail
      refine wp_region_T (fun W=>W.cell? ⟨bb,oo+k * 3,none⟩=some (.slice TA T.length Tc)∧W.cell? ⟨bb,oo+k * 3+1,none⟩=some (.slice MA M.length Mc)∧W.cell? ⟨bb,oo+k * 3+2,none⟩=some (.int .i64 f)) (fun _=>false) (by kernel_rfl) ⟨g0,g1,g2⟩ (fun hHeld=>?_)
      refine qtq 0 ?_
      simp only [qsa,qsb,qsc]
      refine qtq 1 ?_
      simp only [qsa,qsb,qsc]
      refine qtq 2 ?_
      simp only [qsa,qsb,qsc]
      refine qtq 3 ?_
      simp only [qsa,qsb,qsc]
      refine qtq 4 ?_
      simp only [qsa,qsb,qsc]
      refine qtq 5 ?_
      simp only [qsa,qsb,qsc]
      refine qtq 6 ?_
      simp only [qsa,qsb,qsc]
      refine qtq 7 ?_
      simp only [qsa,qsb,qsc]
      refine qtq 8 ?_
      simp only [qsa,qsb,qsc]
      refine qtq 9 ?_
      simp only [qsa,qsb,qsc]
      refine qtq 10 ?_
      simp only [qsa,qsb,qsc]
      refine qtq 11 ?_
      simp only [qsa,qsb,qsc]
      refine qtq 12 ?_
      simp only [qsa,qsb,qsc]
      refine qtq 13 ?_
      simp only [qsa,qsb,qsc]
      refine qtq 14 ?_
      simp only [qsa,qsb,qsc]
      refine qtq 15 ?_
      simp only [qsa,qsb,qsc]
      refine qtq 16 ?_
      simp only [qsa,qsb,qsc]
      clear hHeld
      have HBD:=Lib.hid (Below.drew HB.out)
      replace HO:=Lib.hid HO.out.drew
      have hd0 : wr.drew.cell? ⟨bb,oo+k * 3,none⟩=some (.slice TA T.length Tc):=g0
      have hd1 : wr.drew.cell? ⟨bb,oo+k * 3+1,none⟩=some (.slice MA M.length Mc):=g1
      have hd2 : wr.drew.cell? ⟨bb,oo+k * 3+2,none⟩=some (.int .i64 f):=g2
      clear g0 g1 g2 HB
      generalize wr.drew=w1 at *
      refine wpAnyT_next (i:=17) (by kernel_rfl) rfl ?_
      go_wp2_with fail
      have hs1:=And.intro (kal (.cells #[.slice TA T.length Tc,.slice MA M.length Mc,.int .i64 f] 60) hd0) (And.intro (kal (.cells #[.slice TA T.length Tc,.slice MA M.length Mc,.int .i64 f] 60) hd1) (kal (.cells #[.slice TA T.length Tc,.slice MA M.length Mc,.int .i64 f] 60) hd2))
      have hb2:=HBD.out.alloc HBD.out.size (.cells #[.slice TA T.length Tc,.slice MA M.length Mc,.int .i64 f] 60)
      have ho2:=HO.out.alloc (.cells #[.slice TA T.length Tc,.slice MA M.length Mc,.int .i64 f] 60)
      have HR2 : Hid (Rd (· < (w1.alloc (.cells #[.slice TA T.length Tc,.slice MA M.length Mc,.int .i64 f] 60)).heap.size) 3 CS.enc (w1.alloc (.cells #[.slice TA T.length Tc,.slice MA M.length Mc,.int .i64 f] 60)) ⟨some ⟨w1.heap.size,0,none⟩,1,[(⟨⟨TA,Tc,T⟩,⟨MA,Mc,M⟩,f⟩ : CS)]⟩):=Lib.hid (((Own.lit w1 #[.slice TA T.length Tc,.slice MA M.length Mc,.int .i64 f] [(⟨⟨TA,Tc,T⟩,⟨MA,Mc,M⟩,f⟩ : CS)] (Nat.le_refl _) (by simp [maxLen]) rfl CS.enc_k).rd CS.enc_k).mono fun _ hb=>hb.2)
      refine And.intro (by first | exact hs1 | exact fun _=>hs1) ?_
      have HB2:=Lib.hid hb2
      have HO2:=Lib.hid ho2
      have HS1:=Lib.hid hs1
      clear hd0 hd1 hd2 hb2 ho2 hs1 HBD HO
      generalize w1.alloc (.cells #[.slice TA T.length Tc,.slice MA M.length Mc,.int .i64 f] 60)=w2 at *
      generalize w1.heap.size=q1 at *
      refine wpAnyT_next (i:=18) (by kernel_rfl) rfl ?_
      have hol:=HOL.out
      refine wpl_append_sl _ rfl (.tmp 11) (.tmp 28) _ rfl Tryz.underlying42 infoCase (by omega) CS.enc_k CS.enc_one ⟨oA,oc,out⟩ ⟨some ⟨q1,0,none⟩,1,[(⟨⟨TA,Tc,T⟩,⟨MA,Mc,M⟩,f⟩ : CS)]⟩ rfl rfl HO2.out HR2.out (by simp [maxLen]; omega) (by simp; omega) HB2.out.size ?_
      intro A1 c1 w3 hown hg hAA
      have hb3:=HB2.out.grown hg HB2.out.size (own_ge HO2.out)
      have hc3 : ∀ {j v},w2.cell? ⟨bb,j,none⟩=some v→w3.cell? ⟨bb,j,none⟩=some v:=fun h=>(World.cell?_of_block (hg.block bb (World.block_lt_of_cell? _ _ h) (fun e=>by have:=own_ge HO2.out bb e.symm; omega))).trans h
      have hs3:=And.intro (hc3 HS1.out.1) (And.intro (hc3 HS1.out.2.1) (hc3 HS1.out.2.2))
      have HB3:=Lib.hid hb3
      have HO3:=Lib.hid hown
      have hll : (out ++ [(⟨⟨TA,Tc,T⟩,⟨MA,Mc,M⟩,f⟩ : CS)]).length=out.length+1:=by simp
      rw [hll]
      clear hb3 hown hg hAA hc3 HS1 HR2 HB2 HO2 hol hll
      go_wp2_with fail
      refine And.intro (by first | exact hs3 | exact fun _=>hs3) ?_
      have hHeld:=hs3
      refine qtq 19 ?_
      simp only [qsa,qsb,qsc]
      refine wpAnyT_done (by kernel_rfl) ?_ _
      clear hHeld
      clear hs3
      go_wp2_with fail
      go_roundw
      case rel=>exact ⟨k+1,A1,c1,out ++ [(⟨⟨TA,Tc,T⟩,⟨MA,Mc,M⟩,f⟩ : CS)],by omega,by simp,by go_num,HB3,HO3,Lib.hid (by rw [List.take_add_one,HLK.out,HG.out]; rfl)⟩
      case measure=>simp [intOf]; omega
    · have hke : k=l.length:=by omega
      have hki : ¬ (k : Int)<(l.length : Int):=by omega
      have HF : Hid (out=l):=Lib.hid (by rw [HG.out,hke,List.take_length])
      clear hke HG
      go_wp2_with fail
      go_ret
      rw [← HF.out]
      exact ⟨HB.out,oA,oc,rfl,HO.out⟩
def bsS : BS:=⟨⟨#[99,111,111,112]⟩,[],.mk 10 0 0 empS [.mk 2 0 0 ⟨#[100,105,114,101,99,116]⟩ [],.mk 0 31 2 empS []],.mk 0 400 1 empS [],.mk 0 50 1 empS [],.mk 0 100 1 empS [],9,100,600⟩
theorem shp_leaf {o n u : Int} {s : ByteArray} {e : PT} (h : shp e = .mk o n u s []) : ∃ A c,e=⟨o,n,u,s,A,c,[]⟩:=by
  obtain ⟨A,c,l,rfl,hl⟩:=shp_inv h
  rcases l with _ | ⟨x,l⟩
  · exact ⟨A,c,rfl⟩
  · simp at hl
theorem shp_two {o n u : Int} {s : ByteArray} {e : PT} {a b : PS} (h : shp e = .mk o n u s [a,b]) : ∃ A c x y,e=⟨o,n,u,s,A,c,[x,y]⟩∧shp x=a∧shp y=b:=by
  obtain ⟨A,c,l,rfl,hl⟩:=shp_inv h
  rcases l with _ | ⟨x,_ | ⟨y,_ | ⟨z,l⟩⟩⟩
  · simp at hl
  · simp at hl
  · simp only [List.map_cons,List.map_nil,List.cons.injEq,and_true] at hl
    exact ⟨A,c,x,y,rfl,hl.1,hl.2⟩
  · simp at hl
theorem byl_second {b : Byl} (h : shB b=bsS) : ∃ A c A1 c1 A2 c2 A3 c3 A4 c4 A5 c5 A6 c6,b=⟨⟨#[99,111,111,112]⟩,⟨A,c,[]⟩,⟨10,0,0,⟨#[]⟩,A1,c1,[⟨2,0,0,⟨#[100,105,114,101,99,116]⟩,A2,c2,[]⟩,⟨0,31,2,⟨#[]⟩,A3,c3,[]⟩]⟩,⟨0,400,1,⟨#[]⟩,A4,c4,[]⟩,⟨0,50,1,⟨#[]⟩,A5,c5,[]⟩,⟨0,100,1,⟨#[]⟩,A6,c6,[]⟩,9,100,600⟩:=by
  obtain ⟨nm,⟨LA,Lc,L⟩,ea,eb,ec,ed,q,sh,ch⟩:=b
  unfold shB bsS at h
  injection h with h1 h2 h3 h4 h5 h6 h7 h8 h9
  simp only at h1 h2 h3 h4 h5 h6 h7 h8 h9
  subst h1 h7 h8 h9
  rcases L with _ | ⟨x,L⟩
  · obtain ⟨A1,c1,x,y,rfl,hx,hy⟩:=shp_two h3
    obtain ⟨A2,c2,rfl⟩:=shp_leaf hx
    obtain ⟨A3,c3,rfl⟩:=shp_leaf hy
    obtain ⟨A4,c4,rfl⟩:=shp_leaf h4
    obtain ⟨A5,c5,rfl⟩:=shp_leaf h5
    obtain ⟨A6,c6,rfl⟩:=shp_leaf h6
    exact ⟨LA,Lc,A1,c1,A2,c2,A3,c3,A4,c4,A5,c5,A6,c6,rfl⟩
  · simp at h2
theorem small_brk {b : Byl} (h : shB b=bsS) (TA TB TC MA : Option Addr) (ta tb tc ma : Nat) : brkL b 0 [⟨⟨TA,ta,tripL 20 20 0 60 1 0 0 1⟩,⟨MA,ma,riderL 0 0 0 0⟩,300⟩,⟨⟨TB,tb,tripL 40 40 0 60 1 0 0 1⟩,⟨MA,ma,riderL 0 0 0 0⟩,300⟩,⟨⟨TC,tc,tripL 20 20 0 60 1 0 0 1⟩,⟨MA,ma,riderL 0 0 0 0⟩,400⟩]=[0,1]:=by
  obtain ⟨A,c,A1,c1,A2,c2,A3,c3,A4,c4,A5,c5,A6,c6,rfl⟩:=byl_second h
  kernel_rfl
theorem small_right (sF sS : ByteArray) (hF : sF.data.toList=cF) (hS : sS.data.toList=cS) : rightC [⟨0,sF⟩,⟨60,sS⟩]=true:=by
  have h1 : parV ⟨0,sF⟩=parC cF:=by unfold parV; rw [hF]
  have h2 : parV ⟨60,sS⟩=parC cS:=by unfold parV; rw [hS]
  unfold rightC
  rw [rgtL_go (by rw [h1,parC_F]) rfl (by show (-1 : Int)<0; decide) rfl,rgtL_go (by rw [h2,parC_S]) rfl (by show (0 : Int)<60; decide) (by rw [h1,h2,parC_F,parC_S]; rfl)]
  rfl
theorem small_nil : rightC []=false:=rfl
theorem small_at (sF sS : ByteArray) (hF : sF.data.toList=cF) (hS : sS.data.toList=cS) : atC [⟨0,sF⟩,⟨60,sS⟩] 59=0∧atC [⟨0,sF⟩,⟨60,sS⟩] 60=1∧atC [⟨0,sF⟩,⟨60,sS⟩] (-1) = -1:=by
  unfold atC
  rw [if_pos (small_right sF sS hF hS),if_pos (small_right sF sS hF hS),if_pos (small_right sF sS hF hS)]
  exact ⟨rfl,rfl,rfl⟩
theorem small_ado (sF sS : ByteArray) (hF : sF.data.toList=cF) (hS : sS.data.toList=cS) : adoE [⟨0,sF⟩,⟨60,sS⟩] sF 60=19∧adoE [⟨0,sF⟩,⟨60,sS⟩] sF 61=0:=by
  have hr:=small_right sF sS hF hS
  have hn : (parC sF.data.toList).1.name=(parC (([⟨0,sF⟩,⟨60,sS⟩] : List VR).headD ⟨0,⟨#[]⟩⟩).t.data.toList).1.name:=rfl
  have h0 : (parC sF.data.toList).2=0:=by rw [hF,parC_F]
  constructor
  · rw [adoE_go hr rfl,if_neg (by rw [h0]; decide),if_neg (fun h=>h hn),if_pos (by show (60 : Int)≤60; decide)]
  · rw [adoE_go hr rfl,if_neg (by rw [h0]; decide),if_neg (fun h=>h hn),if_neg (by show ¬ (61 : Int)≤60; decide),if_neg (by show ¬ (2 : Nat)=100; decide)]
theorem law35_small (w : World) (hg : SigW w) : Calls Tryz.prog 7 #[] w fun r w'=>r = .returned (.bool true)∧Below w.heap.size w w':=by
  have HG:=Lib.hid hg
  clear hg
  obtain ⟨sF,hF⟩ : ∃ x : ByteArray,x=⟨#[98,121,108,97,119,115,32,99,111,111,112,32,59,32,97,100,109,105,116,32,116,114,117,101,32,59,32,102,97,114,101,32,51,48,48,32,99,101,110,116,115,32,59,32,108,97,116,101,32,53,48,32,99,101,110,116,115,32,59,32,110,111,115,104,111,119,32,49,48,48,32,99,101,110,116,115,32,59,32,113,117,111,116,97,32,57,32,59,32,115,104,97,114,101,32,49,48,48,32,59,32,99,104,97,110,103,101,32,54,48,48,32,59]⟩:=⟨_,rfl⟩
  obtain ⟨sS,hS⟩ : ∃ x : ByteArray,x=⟨#[98,121,108,97,119,115,32,99,111,111,112,32,59,32,97,100,109,105,116,32,116,114,105,112,32,100,105,114,101,99,116,32,60,32,51,49,32,109,105,110,117,116,101,115,32,59,32,102,97,114,101,32,52,48,48,32,99,101,110,116,115,32,59,32,108,97,116,101,32,53,48,32,99,101,110,116,115,32,59,32,110,111,115,104,111,119,32,49,48,48,32,99,101,110,116,115,32,59,32,113,117,111,116,97,32,57,32,59,32,115,104,97,114,101,32,49,48,48,32,59,32,99,104,97,110,103,101,32,54,48,48,32,59]⟩:=⟨_,rfl⟩
  have HCF : Hid (sF.data.toList=cF):=Lib.hid (by rw [hF]; rfl)
  have HCS : Hid (sS.data.toList=cS):=Lib.hid (by rw [hS]; rfl)
  dsimp only at hF hS
  have HF:=Lib.hid hF
  have HS:=Lib.hid hS
  clear hF hS
  go_enter Tryz.func7,Tryz.ntmps7
  go_wp2_with fail
  rw [← HF.out,← HS.out]
  have HSF : Hid (sF.size≤9223372036854775807):=Lib.hid (by rw [← byte_len,HCF.out]; decide)
  have HSS : Hid (sS.size≤9223372036854775807):=Lib.hid (by rw [← byte_len,HCS.out]; decide)
  have HB : Hid (Below w.heap.size w (w.alloc (.cells #[.int .i64 0,.string sF,.int .i64 60,.string sS] 50))):=Lib.hid qbl
  have HV : Hid (Rd (· < (w.alloc (.cells #[.int .i64 0,.string sF,.int .i64 60,.string sS] 50)).heap.size) 2 VR.enc (w.alloc (.cells #[.int .i64 0,.string sF,.int .i64 60,.string sS] 50)) ⟨some ⟨w.heap.size,0,none⟩,2,[(⟨0,sF⟩ : VR),⟨60,sS⟩]⟩):=Lib.hid (((Own.lit w #[.int .i64 0,.string sF,.int .i64 60,.string sS] [(⟨0,sF⟩ : VR),⟨60,sS⟩] (Nat.le_refl _) (by simp [maxLen]) rfl VR.enc_k).rd VR.enc_k).mono fun _ hb=>hb.2)
  have HVS : Hid (∀ x,x ∈ [(⟨0,sF⟩ : VR),⟨60,sS⟩]→x.t.size≤9223372036854775807):=Lib.hid (fun x hx=>by
    simp only [List.mem_cons,List.not_mem_nil,or_false] at hx
    rcases hx with rfl | rfl
    · exact HSF.out
    · exact HSS.out)
  obtain ⟨gv,hgv⟩ : ∃ x,x=w.heap.size:=⟨_,rfl⟩
  rw [← hgv] at HV ⊢
  clear hgv
  generalize w.alloc (.cells #[.int .i64 0,.string sF,.int .i64 60,.string sS] 50)=w1 at *
  have hc:=syn_Parse sS w1 HSS.out (HG.out.later HB.out)
  rw [HCS.out,parsB_S] at hc
  refine hc.mono ?_
  clear hc
  rintro r w2 ⟨hb2,b,hsh,hat,rfl⟩
  have HSH : Hid (shB b=bsS):=Lib.hid hsh
  have HBT : Hid (Byl.At (· < w2.heap.size) w2 b):=Lib.hid (hat.keepF (fun _ _=>rfl) (fun i hi=>hi.2))
  replace HB:=Lib.hid (HB.out.trans (hb2.mono HB.out.size))
  replace HV:=Lib.hid (HV.out.later hb2)
  clear hb2 hsh hat
  have hvv : ∃ cs,b.v = .agg cs∧cs.size=25∧cs.all (·.oneCell')=true:=by obtain ⟨nm,ls,ea,eb,ec,ed,q,sh,ch⟩:=b; exact ⟨_,byl_v _ _ _ _ _ _ _ _ _,rfl,by kernel_rfl⟩
  obtain ⟨cs,hcs,hsz,hone⟩:=hvv
  have HCV:=Lib.hid hcs
  rw [hcs]
  clear hcs
  have HSZ:=Lib.hid hsz
  have HON:=Lib.hid hone
  clear hsz hone
  go_wp2_with (refine wpList_store_row rfl 28 (.tmp 2) (.tmp 17) rfl w2.heap.size cs rfl rfl 28 #[.string (⟨#[]⟩ : ByteArray),.slice none 0 0,.int .i64 0,.int .i64 0,.int .i64 0,.string (⟨#[]⟩ : ByteArray),.slice none 0 0,.int .i64 0,.int .i64 0,.int .i64 0,.string (⟨#[]⟩ : ByteArray),.slice none 0 0,.int .i64 0,.int .i64 0,.int .i64 0,.string (⟨#[]⟩ : ByteArray),.slice none 0 0,.int .i64 0,.int .i64 0,.int .i64 0,.string (⟨#[]⟩ : ByteArray),.slice none 0 0,.int .i64 0,.int .i64 0,.int .i64 0] (Blk.new w2 _ _) (by rw [HSZ.out]; kernel_rfl) (by rw [HSZ.out]; rfl) HON.out ?_; apply Hid.out)
  have hbw : Below w2.heap.size w2 ((w2.alloc (.cells #[.string (⟨#[]⟩ : ByteArray),.slice none 0 0,.int .i64 0,.int .i64 0,.int .i64 0,.string (⟨#[]⟩ : ByteArray),.slice none 0 0,.int .i64 0,.int .i64 0,.int .i64 0,.string (⟨#[]⟩ : ByteArray),.slice none 0 0,.int .i64 0,.int .i64 0,.int .i64 0,.string (⟨#[]⟩ : ByteArray),.slice none 0 0,.int .i64 0,.int .i64 0,.int .i64 0,.string (⟨#[]⟩ : ByteArray),.slice none 0 0,.int .i64 0,.int .i64 0,.int .i64 0] 28)).setRow w2.heap.size cs):=((Below.refl _ _).alloc (Nat.le_refl _) _).trans (row_below (Nat.le_refl _))
  have HY : Hid (Blk ((w2.alloc (.cells #[.string (⟨#[]⟩ : ByteArray),.slice none 0 0,.int .i64 0,.int .i64 0,.int .i64 0,.string (⟨#[]⟩ : ByteArray),.slice none 0 0,.int .i64 0,.int .i64 0,.int .i64 0,.string (⟨#[]⟩ : ByteArray),.slice none 0 0,.int .i64 0,.int .i64 0,.int .i64 0,.string (⟨#[]⟩ : ByteArray),.slice none 0 0,.int .i64 0,.int .i64 0,.int .i64 0,.string (⟨#[]⟩ : ByteArray),.slice none 0 0,.int .i64 0,.int .i64 0,.int .i64 0] 28)).setRow w2.heap.size cs) w2.heap.size 28 cs):=Lib.hid (setRow_heap _ _ #[.string (⟨#[]⟩ : ByteArray),.slice none 0 0,.int .i64 0,.int .i64 0,.int .i64 0,.string (⟨#[]⟩ : ByteArray),.slice none 0 0,.int .i64 0,.int .i64 0,.int .i64 0,.string (⟨#[]⟩ : ByteArray),.slice none 0 0,.int .i64 0,.int .i64 0,.int .i64 0,.string (⟨#[]⟩ : ByteArray),.slice none 0 0,.int .i64 0,.int .i64 0,.int .i64 0,.string (⟨#[]⟩ : ByteArray),.slice none 0 0,.int .i64 0,.int .i64 0,.int .i64 0] _ _ (0,0) (Blk.new w2 _ _))
  replace HB:=Lib.hid (HB.out.trans (hbw.mono HB.out.size))
  replace HV:=Lib.hid (HV.out.later hbw)
  replace HBT:=Lib.hid (HBT.out.later hbw)
  clear hbw
  generalize (w2.alloc (.cells #[.string (⟨#[]⟩ : ByteArray),.slice none 0 0,.int .i64 0,.int .i64 0,.int .i64 0,.string (⟨#[]⟩ : ByteArray),.slice none 0 0,.int .i64 0,.int .i64 0,.int .i64 0,.string (⟨#[]⟩ : ByteArray),.slice none 0 0,.int .i64 0,.int .i64 0,.int .i64 0,.string (⟨#[]⟩ : ByteArray),.slice none 0 0,.int .i64 0,.int .i64 0,.int .i64 0,.string (⟨#[]⟩ : ByteArray),.slice none 0 0,.int .i64 0,.int .i64 0,.int .i64 0] 28)).setRow w2.heap.size cs=w3 at *
  generalize w2.heap.size=g2 at *
  refine Lib.hid ?_
  go_wp2_with fail
  refine (fare_Rider 0 0 0 0 w3).mono ?_
  rintro r w4 ⟨⟨MA,mc,M⟩,rfl,hM,hMat,hb4⟩
  simp only at hM
  subst hM
  replace HB:=Lib.hid (HB.out.trans (hb4.mono HB.out.size))
  replace HV:=Lib.hid (HV.out.later hb4)
  replace HBT:=Lib.hid (HBT.out.later hb4)
  replace HY:=Lib.hid (HY.out.later hb4)
  try replace HM:=Lib.hid (HM.out.later hb4)
  try replace HTA:=Lib.hid (HTA.out.later hb4)
  try replace HTB:=Lib.hid (HTB.out.later hb4)
  try replace HTC:=Lib.hid (HTC.out.later hb4)
  try replace HCA:=Lib.hid (HCA.out.later hb4)
  clear hb4
  have HM:=Lib.hid hMat
  clear hMat
  rw [show (⟨MA,mc,riderL 0 0 0 0⟩ : Sl FT).l.length=4 from rfl]
  simp only
  go_wp2_with fail
  refine (law_trip 20 w4).mono ?_
  rintro r w5 ⟨⟨TA,ta,T⟩,rfl,hT,hTat,hbt⟩
  simp only at hT
  subst hT
  replace HB:=Lib.hid (HB.out.trans (hbt.mono HB.out.size))
  replace HV:=Lib.hid (HV.out.later hbt)
  replace HBT:=Lib.hid (HBT.out.later hbt)
  replace HY:=Lib.hid (HY.out.later hbt)
  try replace HM:=Lib.hid (HM.out.later hbt)
  try replace HTA:=Lib.hid (HTA.out.later hbt)
  try replace HTB:=Lib.hid (HTB.out.later hbt)
  try replace HTC:=Lib.hid (HTC.out.later hbt)
  try replace HCA:=Lib.hid (HCA.out.later hbt)
  clear hbt
  have HTA:=Lib.hid hTat
  clear hTat
  rw [show (⟨TA,ta,tripL 20 20 0 60 1 0 0 1⟩ : Sl FT).l.length=8 from rfl]
  simp only
  go_wp2_with fail
  refine (law_trip 40 w5).mono ?_
  rintro r w6 ⟨⟨TB,tb,T⟩,rfl,hT,hTat,hbt⟩
  simp only at hT
  subst hT
  replace HB:=Lib.hid (HB.out.trans (hbt.mono HB.out.size))
  replace HV:=Lib.hid (HV.out.later hbt)
  replace HBT:=Lib.hid (HBT.out.later hbt)
  replace HY:=Lib.hid (HY.out.later hbt)
  try replace HM:=Lib.hid (HM.out.later hbt)
  try replace HTA:=Lib.hid (HTA.out.later hbt)
  try replace HTB:=Lib.hid (HTB.out.later hbt)
  try replace HTC:=Lib.hid (HTC.out.later hbt)
  try replace HCA:=Lib.hid (HCA.out.later hbt)
  clear hbt
  have HTB:=Lib.hid hTat
  clear hTat
  rw [show (⟨TB,tb,tripL 40 40 0 60 1 0 0 1⟩ : Sl FT).l.length=8 from rfl]
  simp only
  go_wp2_with fail
  refine (law_trip 20 w6).mono ?_
  rintro r w7 ⟨⟨TC,tc,T⟩,rfl,hT,hTat,hbt⟩
  simp only at hT
  subst hT
  replace HB:=Lib.hid (HB.out.trans (hbt.mono HB.out.size))
  replace HV:=Lib.hid (HV.out.later hbt)
  replace HBT:=Lib.hid (HBT.out.later hbt)
  replace HY:=Lib.hid (HY.out.later hbt)
  try replace HM:=Lib.hid (HM.out.later hbt)
  try replace HTA:=Lib.hid (HTA.out.later hbt)
  try replace HTB:=Lib.hid (HTB.out.later hbt)
  try replace HTC:=Lib.hid (HTC.out.later hbt)
  try replace HCA:=Lib.hid (HCA.out.later hbt)
  clear hbt
  have HTC:=Lib.hid hTat
  clear hTat
  rw [show (⟨TC,tc,tripL 20 20 0 60 1 0 0 1⟩ : Sl FT).l.length=8 from rfl]
  simp only
  go_wp2_with fail
  have hbw : Below w7.heap.size w7 (w7.alloc (.cells #[.slice TA 8 ta,.slice MA 4 mc,.int .i64 300,.slice TB 8 tb,.slice MA 4 mc,.int .i64 300,.slice TC 8 tc,.slice MA 4 mc,.int .i64 400] 60)):=(Below.refl _ _).alloc (Nat.le_refl _) _
  have HO:=Lib.hid ((Own.lit (e:=60) w7 #[.slice TA 8 ta,.slice MA 4 mc,.int .i64 300,.slice TB 8 tb,.slice MA 4 mc,.int .i64 300,.slice TC 8 tc,.slice MA 4 mc,.int .i64 400] ([⟨⟨TA,ta,tripL 20 20 0 60 1 0 0 1⟩,⟨MA,mc,riderL 0 0 0 0⟩,300⟩,⟨⟨TB,tb,tripL 40 40 0 60 1 0 0 1⟩,⟨MA,mc,riderL 0 0 0 0⟩,300⟩,⟨⟨TC,tc,tripL 20 20 0 60 1 0 0 1⟩,⟨MA,mc,riderL 0 0 0 0⟩,400⟩] : List CS) (Nat.le_refl _) (by simp [maxLen]) rfl CS.enc_k).rd CS.enc_k)
  have HCA : Hid (CasesAt (· < (w7.alloc (.cells #[.slice TA 8 ta,.slice MA 4 mc,.int .i64 300,.slice TB 8 tb,.slice MA 4 mc,.int .i64 300,.slice TC 8 tc,.slice MA 4 mc,.int .i64 400] 60)).heap.size) (w7.alloc (.cells #[.slice TA 8 ta,.slice MA 4 mc,.int .i64 300,.slice TB 8 tb,.slice MA 4 mc,.int .i64 300,.slice TC 8 tc,.slice MA 4 mc,.int .i64 400] 60)) ⟨some ⟨w7.heap.size,0,none⟩,3,([⟨⟨TA,ta,tripL 20 20 0 60 1 0 0 1⟩,⟨MA,mc,riderL 0 0 0 0⟩,300⟩,⟨⟨TB,tb,tripL 40 40 0 60 1 0 0 1⟩,⟨MA,mc,riderL 0 0 0 0⟩,300⟩,⟨⟨TC,tc,tripL 20 20 0 60 1 0 0 1⟩,⟨MA,mc,riderL 0 0 0 0⟩,400⟩] : List CS)⟩):=Lib.hid ⟨HO.out.mono fun _ h=>h.2,fun x hx=>by
    have hx:=hx
    simp only [List.mem_cons,List.not_mem_nil,or_false] at hx
    rcases hx with rfl | rfl | rfl
    · exact ⟨HTA.out.later hbw,HM.out.later hbw⟩
    · exact ⟨HTB.out.later hbw,HM.out.later hbw⟩
    · exact ⟨HTC.out.later hbw,HM.out.later hbw⟩⟩
  clear HO HM HTA HTB HTC
  replace HB:=Lib.hid (HB.out.trans (hbw.mono HB.out.size))
  replace HV:=Lib.hid (HV.out.later hbw)
  replace HBT:=Lib.hid (HBT.out.later hbw)
  replace HY:=Lib.hid (HY.out.later hbw)
  clear hbw
  generalize w7.alloc (.cells #[.slice TA 8 ta,.slice MA 4 mc,.int .i64 300,.slice TB 8 tb,.slice MA 4 mc,.int .i64 300,.slice TC 8 tc,.slice MA 4 mc,.int .i64 400] 60)=w8 at *
  generalize w7.heap.size=g7 at *
  go_wp2_with fail
  rw [← HF.out]
  have hc:=ch_Adopt ⟨some ⟨gv,0,none⟩,2,[(⟨0,sF⟩ : VR),⟨60,sS⟩]⟩ sF 60 w8 HV.out HVS.out HSF.out (HG.out.later HB.out)
  simp only at hc
  rw [(small_ado sF sS HCF.out HCS.out).1] at hc
  refine hc.mono ?_
  clear hc
  rintro r w9 ⟨hb9,hr⟩
  rw [if_neg (by decide)] at hr
  subst hr
  replace HB:=Lib.hid (HB.out.trans (hb9.mono HB.out.size))
  replace HV:=Lib.hid (HV.out.later hb9)
  replace HBT:=Lib.hid (HBT.out.later hb9)
  replace HY:=Lib.hid (HY.out.later hb9)
  try replace HM:=Lib.hid (HM.out.later hb9)
  try replace HTA:=Lib.hid (HTA.out.later hb9)
  try replace HTB:=Lib.hid (HTB.out.later hb9)
  try replace HTC:=Lib.hid (HTC.out.later hb9)
  try replace HCA:=Lib.hid (HCA.out.later hb9)
  clear hb9
  go_wp2_with fail
  rw [← HF.out]
  have hc:=ch_Adopt ⟨some ⟨gv,0,none⟩,2,[(⟨0,sF⟩ : VR),⟨60,sS⟩]⟩ sF 61 w9 HV.out HVS.out HSF.out (HG.out.later HB.out)
  simp only at hc
  rw [(small_ado sF sS HCF.out HCS.out).2] at hc
  refine hc.mono ?_
  clear hc
  rintro r w10 ⟨hb10,hr⟩
  rw [if_pos rfl] at hr
  obtain ⟨mA,mcc,rfl,hown⟩:=hr
  replace HB:=Lib.hid (HB.out.trans (hb10.mono HB.out.size))
  replace HV:=Lib.hid (HV.out.later hb10)
  replace HBT:=Lib.hid (HBT.out.later hb10)
  replace HY:=Lib.hid (HY.out.later hb10)
  try replace HM:=Lib.hid (HM.out.later hb10)
  try replace HTA:=Lib.hid (HTA.out.later hb10)
  try replace HTB:=Lib.hid (HTB.out.later hb10)
  try replace HTC:=Lib.hid (HTC.out.later hb10)
  try replace HCA:=Lib.hid (HCA.out.later hb10)
  clear hb10
  clear hown
  rw [show ([(⟨0,sF⟩ : VR),⟨60,sS⟩]).length+1=3 from rfl]
  go_wp2_with fail
  have hc:=ch_At ⟨some ⟨gv,0,none⟩,2,[(⟨0,sF⟩ : VR),⟨60,sS⟩]⟩ 59 w10 HV.out HVS.out (HG.out.later HB.out)
  simp only at hc
  rw [(small_at sF sS HCF.out HCS.out).1] at hc
  refine hc.mono ?_
  clear hc
  rintro r w11 ⟨rfl,hb11⟩
  replace HB:=Lib.hid (HB.out.trans (hb11.mono HB.out.size))
  replace HV:=Lib.hid (HV.out.later hb11)
  replace HBT:=Lib.hid (HBT.out.later hb11)
  replace HY:=Lib.hid (HY.out.later hb11)
  try replace HM:=Lib.hid (HM.out.later hb11)
  try replace HTA:=Lib.hid (HTA.out.later hb11)
  try replace HTB:=Lib.hid (HTB.out.later hb11)
  try replace HTC:=Lib.hid (HTC.out.later hb11)
  try replace HCA:=Lib.hid (HCA.out.later hb11)
  clear hb11
  go_wp2_with fail
  have hc:=ch_At ⟨some ⟨gv,0,none⟩,2,[(⟨0,sF⟩ : VR),⟨60,sS⟩]⟩ 60 w11 HV.out HVS.out (HG.out.later HB.out)
  simp only at hc
  rw [(small_at sF sS HCF.out HCS.out).2.1] at hc
  refine hc.mono ?_
  clear hc
  rintro r w12 ⟨rfl,hb12⟩
  replace HB:=Lib.hid (HB.out.trans (hb12.mono HB.out.size))
  replace HV:=Lib.hid (HV.out.later hb12)
  replace HBT:=Lib.hid (HBT.out.later hb12)
  replace HY:=Lib.hid (HY.out.later hb12)
  try replace HM:=Lib.hid (HM.out.later hb12)
  try replace HTA:=Lib.hid (HTA.out.later hb12)
  try replace HTB:=Lib.hid (HTB.out.later hb12)
  try replace HTC:=Lib.hid (HTC.out.later hb12)
  try replace HCA:=Lib.hid (HCA.out.later hb12)
  clear hb12
  go_wp2_with fail
  have hc:=ch_At ⟨some ⟨gv,0,none⟩,2,[(⟨0,sF⟩ : VR),⟨60,sS⟩]⟩ (-1) w12 HV.out HVS.out (HG.out.later HB.out)
  simp only at hc
  rw [(small_at sF sS HCF.out HCS.out).2.2] at hc
  refine hc.mono ?_
  clear hc
  rintro r w13 ⟨rfl,hb13⟩
  replace HB:=Lib.hid (HB.out.trans (hb13.mono HB.out.size))
  replace HV:=Lib.hid (HV.out.later hb13)
  replace HBT:=Lib.hid (HBT.out.later hb13)
  replace HY:=Lib.hid (HY.out.later hb13)
  try replace HM:=Lib.hid (HM.out.later hb13)
  try replace HTA:=Lib.hid (HTA.out.later hb13)
  try replace HTB:=Lib.hid (HTB.out.later hb13)
  try replace HTC:=Lib.hid (HTC.out.later hb13)
  try replace HCA:=Lib.hid (HCA.out.later hb13)
  clear hb13
  go_wp2_with fail
  have hc:=ch_Right ⟨some ⟨gv,0,none⟩,2,[(⟨0,sF⟩ : VR),⟨60,sS⟩]⟩ w13 HV.out HVS.out (HG.out.later HB.out)
  simp only at hc
  rw [small_right sF sS HCF.out HCS.out] at hc
  refine hc.mono ?_
  clear hc
  rintro r w14 ⟨rfl,hb14⟩
  replace HB:=Lib.hid (HB.out.trans (hb14.mono HB.out.size))
  replace HV:=Lib.hid (HV.out.later hb14)
  replace HBT:=Lib.hid (HBT.out.later hb14)
  replace HY:=Lib.hid (HY.out.later hb14)
  try replace HM:=Lib.hid (HM.out.later hb14)
  try replace HTA:=Lib.hid (HTA.out.later hb14)
  try replace HTB:=Lib.hid (HTB.out.later hb14)
  try replace HTC:=Lib.hid (HTC.out.later hb14)
  try replace HCA:=Lib.hid (HCA.out.later hb14)
  clear hb14
  go_wp2_with fail
  have hc:=ch_Right ⟨none,0,[]⟩ w14 (Rd.nil _ _ _ _) (fun x hx=>by cases hx) (HG.out.later HB.out)
  rw [small_nil] at hc
  refine hc.mono ?_
  clear hc
  rintro r w15 ⟨rfl,hb15⟩
  replace HB:=Lib.hid (HB.out.trans (hb15.mono HB.out.size))
  replace HV:=Lib.hid (HV.out.later hb15)
  replace HBT:=Lib.hid (HBT.out.later hb15)
  replace HY:=Lib.hid (HY.out.later hb15)
  try replace HM:=Lib.hid (HM.out.later hb15)
  try replace HTA:=Lib.hid (HTA.out.later hb15)
  try replace HTB:=Lib.hid (HTB.out.later hb15)
  try replace HTC:=Lib.hid (HTC.out.later hb15)
  try replace HCA:=Lib.hid (HCA.out.later hb15)
  clear hb15
  go_wp2_with (refine wpl_load_rowW rfl 28 (.tmp 2) rfl g2 rfl 28 cs (0,0) _ HY.out Tryz.underlying28 rfl (by rw [HSZ.out]; kernel_rfl) ?_)
  have hc:=ch_Breaks b ⟨some ⟨g7,0,none⟩,3,([⟨⟨TA,ta,tripL 20 20 0 60 1 0 0 1⟩,⟨MA,mc,riderL 0 0 0 0⟩,300⟩,⟨⟨TB,tb,tripL 40 40 0 60 1 0 0 1⟩,⟨MA,mc,riderL 0 0 0 0⟩,300⟩,⟨⟨TC,tc,tripL 20 20 0 60 1 0 0 1⟩,⟨MA,mc,riderL 0 0 0 0⟩,400⟩] : List CS)⟩ w15 HBT.out (fun _=>by obtain ⟨A,c,A1,c1,A2,c2,A3,c3,A4,c4,A5,c5,A6,c6,h⟩:=byl_second HSH.out; rw [h]; exact Nat.zero_le _) HCA.out (by show (3 : Nat)≤1000000; decide)
  simp only [HCV.out] at hc
  rw [small_brk HSH.out] at hc
  refine hc.mono ?_
  clear hc
  rintro r w16 ⟨hb16,kA,kc,rfl,hko⟩
  replace HB:=Lib.hid (HB.out.trans (hb16.mono HB.out.size))
  replace HV:=Lib.hid (HV.out.later hb16)
  replace HBT:=Lib.hid (HBT.out.later hb16)
  replace HY:=Lib.hid (HY.out.later hb16)
  try replace HM:=Lib.hid (HM.out.later hb16)
  try replace HTA:=Lib.hid (HTA.out.later hb16)
  try replace HTB:=Lib.hid (HTB.out.later hb16)
  try replace HTC:=Lib.hid (HTC.out.later hb16)
  try replace HCA:=Lib.hid (HCA.out.later hb16)
  clear hb16
  rw [show ([(0 : Int),1]).length=2 from rfl]
  go_wp2_with fail
  have hbw : Below w16.heap.size w16 (w16.alloc (.cells #[.int .i64 0,.int .i64 1] 3)):=(Below.refl _ _).alloc (Nat.le_refl _) _
  have hk1 : Rd (· < (w16.alloc (.cells #[.int .i64 0,.int .i64 1] 3)).heap.size) 1 ienc (w16.alloc (.cells #[.int .i64 0,.int .i64 1] 3)) ⟨kA,kc,[0,1]⟩:=((hko.below hbw).rd ienc_k).mono fun _ h=>h.2
  have hk2 : Rd (· < (w16.alloc (.cells #[.int .i64 0,.int .i64 1] 3)).heap.size) 1 ienc (w16.alloc (.cells #[.int .i64 0,.int .i64 1] 3)) ⟨some ⟨w16.heap.size,0,none⟩,2,[0,1]⟩:=((Own.lit (e:=3) w16 #[.int .i64 0,.int .i64 1] [(0 : Int),1] (Nat.le_refl _) (by simp [maxLen]) rfl ienc_k).rd ienc_k).mono fun _ h=>h.2
  refine (r35_Ints _ _ _ hk1 hk2).mono ?_
  rintro r w17 ⟨rfl,hb17⟩
  have hbz:=HB.out.trans ((hbw.trans (hb17.mono hbw.size)).mono HB.out.size)
  rw [show decide ((⟨kA,kc,[0,1]⟩ : Sl Int).l=(⟨some ⟨w16.heap.size,0,none⟩,2,[0,1]⟩ : Sl Int).l)=true from rfl]
  clear hk1 hk2 hbw hb17 hko
  go_wp2_with fail
  go_ret
  exact ⟨rfl,hbz⟩
end Go.Proofs.YtpbdjpfbhicmdaaGreatDoor
