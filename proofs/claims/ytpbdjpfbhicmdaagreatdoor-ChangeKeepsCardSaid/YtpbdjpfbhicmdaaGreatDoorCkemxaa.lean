/- The walk of ChangeKeeps. -/
import Derived.Test.YtpbdjpfbhicmdaaGreatDoorCbxbq
set_option linter.unusedSimpArgs false
set_option linter.unusedVariables false
set_option maxRecDepth 100000
set_option maxHeartbeats 25600000
namespace Go.Proofs.YtpbdjpfbhicmdaaGreatDoor
open Go.RowKit
theorem run_rowK {P : Program} {o : Oper} {a : Act} {w : World} {g : Nat} {t ty : TypeId} {cs : Array Value} {d : TypeDesc} {x : Operand} (ho : o.op = .load ty x) (hx : a.eval x = .pointer (some ⟨g,0,none⟩)) (hg : Blk w g t cs) (hu : P.underlying ty=some d) (hd : (match d with | .struct _ | .array _ _=>true | _=>false)=true) (hi : (P.info? ty).map (·.size)=some cs.size) : (execOp a.eval o).run P w = .ok (.value (.agg cs)) w:=by
  unfold execOp
  simp only [ho,hx,Instr.loadAt,Instr.sureAddr,Sem.run_bind,Sem.run_pure,Result.andThen_ok,run_loadVar_row w g t ty cs (0,0) d hg hu hd hi]
theorem brkL_one (b : Byl) (x : CS) : brkL b 0 [x]=if keptC b x=true then [] else [0]:=by
  unfold brkL
  split <;> rfl
theorem brkL_yes {b : Byl} {x : CS} (h : keptC b x=true) : brkL b 0 [x]=[]:=by rw [brkL_one,if_pos h]
theorem brkL_no {b : Byl} {x : CS} (h : keptC b x=false) : brkL b 0 [x]=[0]:=by rw [brkL_one,if_neg (by rw [h]; decide)]
theorem kept_parts {b : Byl} {T M : Sl FT} {f : Int} (h : keptC b ⟨T,M,f⟩=true) : (admC b T.l M.l).2=0∧(whC b b.fa T.l M.l).2=0∧(admC b T.l M.l).1=true∧(whC b b.fa T.l M.l).1≤f:=by
  unfold keptC at h
  simp only [Bool.and_eq_true,decide_eq_true_eq] at h
  exact ⟨h.1,h.2.1,h.2.2.1,h.2.2.2⟩
theorem kept_of {b : Byl} {T M : Sl FT} {f : Int} (h1 : (admC b T.l M.l).2=0) (h2 : (whC b b.fa T.l M.l).2=0) (h3 : (admC b T.l M.l).1=true) (h4 : (whC b b.fa T.l M.l).1≤f) : keptC b ⟨T,M,f⟩=true:=by
  unfold keptC
  simp only [h1,h2,h3,decide_true,Bool.true_and]
  exact decide_eq_true h4
theorem kept_chk {b : Byl} {T M : Sl FT} {f : Int} (h : keptC b ⟨T,M,f⟩=true) : chkU b=0:=by
  obtain ⟨h1,_⟩:=kept_parts h
  by_cases hc : chkU b=0
  · exact hc
  · rw [admC_bad hc] at h1
    exact absurd h1 hc
theorem brk_step {b : Byl} {out : List Int} {k i : Nat} {x : CS} {r : List CS} (h : out.drop k=brkL b i (x :: r)) :
    (keptC b x=true→out.drop k=brkL b (i+1) r)∧(keptC b x=false→out[k]? = some (i : Int)∧k<out.length∧out.drop (k+1)=brkL b (i+1) r):=by
  unfold brkL at h
  refine ⟨fun hk=>by rw [if_pos hk] at h; exact h,fun hk=>?_⟩
  rw [if_neg (by rw [hk]; decide)] at h
  have hlt : k<out.length:=by
    rcases Nat.lt_or_ge k out.length with h1 | h1
    · exact h1
    · rw [List.drop_eq_nil_of_le h1] at h; cases h
  rw [List.drop_eq_getElem_cons hlt] at h
  injection h with h1 h2
  exact ⟨by rw [List.getElem?_eq_getElem hlt,h1],hlt,h2⟩
theorem case_one {W : World} {TA MA : Option Addr} {Tc Mc : Nat} {T M : List FT} {f : Int} (h : CS.At (· < W.heap.size) W ⟨⟨TA,Tc,T⟩,⟨MA,Mc,M⟩,f⟩) : CasesAt (· < (W.alloc (.cells #[.slice TA T.length Tc,.slice MA M.length Mc,.int .i64 f] 60)).heap.size) (W.alloc (.cells #[.slice TA T.length Tc,.slice MA M.length Mc,.int .i64 f] 60)) ⟨some ⟨W.heap.size,0,none⟩,1,[(⟨⟨TA,Tc,T⟩,⟨MA,Mc,M⟩,f⟩ : CS)]⟩ :=
  ⟨((Own.lit (e:=60) W #[.slice TA T.length Tc,.slice MA M.length Mc,.int .i64 f] [(⟨⟨TA,Tc,T⟩,⟨MA,Mc,M⟩,f⟩ : CS)] (Nat.le_refl _) (by simp [maxLen]) rfl CS.enc_k).rd CS.enc_k).mono fun _ hb=>hb.2,fun x hx=>by
    obtain rfl:=List.mem_singleton.1 hx
    exact h.later ((Below.refl _ _).alloc (Nat.le_refl _) _)⟩
theorem changekeeps (b : Byl) (l : Sl CS) (more : Int) (w : World) (hg : SigW w) (hb : Byl.At (· < w.heap.size) w b) (_hq : I64 b.q) (_hs : I64 b.sh) (_hc : I64 b.ch) (hl : CasesAt (· < w.heap.size) w l) (hf : ∀ x,x ∈ l.l→I64 x.f) (hm : 0≤more) (hm2 : more<65536) :
    Calls Tryz.prog 5 #[b.v,.slice l.A l.l.length l.c,.int .u16 more] w fun r w'=>r = .returned (.bool true)∧Below w.heap.size w w':=by
  have HG:=Lib.hid hg
  have HP:=Lib.hid hb
  have HL:=Lib.hid hl
  have HF:=Lib.hid hf
  clear hg hb hl hf
  obtain ⟨A,c,l⟩:=l
  obtain ⟨cs,hcs,hsz,hone,_⟩ : ∃ cs,b.v = .agg cs∧cs.size=25∧cs.all (·.oneCell')=true∧cs[0]? = some (.string b.nm):=by
    obtain ⟨nm,ls,ea,eb,ec,ed,q,sh,ch⟩:=b
    exact ⟨_,byl_v _ _ _ _ _ _ _ _ _,rfl,by kernel_rfl,rfl⟩
  have HCS:=Lib.hid hcs
  rw [hcs]
  clear hcs hone
  simp only at HF ⊢
  have HB : Hid (Below w.heap.size w (w.alloc (.cells cs 28))):=Lib.hid qbl
  have HX : Hid (Blk (w.alloc (.cells cs 28)) w.heap.size 28 cs):=Lib.hid (Blk.new _ _ _)
  go_enter Tryz.func5,Tryz.ntmps5
  go_wp2_with fail
  generalize w.alloc (.cells cs 28)=w0 at *
  refine (law35_small w0 (HG.out.later HB.out)).mono ?_
  rintro r w1 ⟨rfl,hb1⟩
  replace HB:=Lib.hid (HB.out.trans (hb1.mono HB.out.size))
  try replace HX:=Lib.hid (HX.out.later hb1)
  try replace HO:=Lib.hid (HO.out.below hb1)
  try replace HC:=Lib.hid (HC.out.later hb1)
  try replace HK:=Lib.hid (And.intro (keep_cell hb1 HK.out.1) (And.intro (keep_cell hb1 HK.out.2.1) (keep_cell hb1 HK.out.2.2)))
  clear hb1
  go_wp2_with (refine wpList_load_row rfl 28 (.tmp 3) rfl w.heap.size rfl 28 cs (0,0) _ HX.out Tryz.underlying28 rfl (by rw [hsz]; kernel_rfl) ?_)
  have hc:=r35_FewCases b ⟨A,c,l⟩ w1 (HP.out.later HB.out) (HL.out.later HB.out)
  simp only [HCS.out] at hc
  refine hc.mono ?_
  clear hc
  rintro r w2 ⟨B,rfl,hfw,hb2⟩
  have HFW:=Lib.hid hfw
  clear hfw
  replace HB:=Lib.hid (HB.out.trans (hb2.mono HB.out.size))
  try replace HX:=Lib.hid (HX.out.later hb2)
  try replace HO:=Lib.hid (HO.out.below hb2)
  try replace HC:=Lib.hid (HC.out.later hb2)
  try replace HK:=Lib.hid (And.intro (keep_cell hb2 HK.out.1) (And.intro (keep_cell hb2 HK.out.2.1) (keep_cell hb2 HK.out.2.2)))
  clear hb2
  rcases B
  · go_wp2_with fail
    go_ret
    exact ⟨rfl,HB.out⟩
  obtain ⟨hl8,h6,_⟩:=HFW.out rfl
  have H40 : Hid (l≠[]→b.lets.l.length≤1000000):=Lib.hid (fun h=>by have:=h6 h; omega)
  clear HFW h6
  go_wp2_with fail
  refine wp_region_T (fun W=>Blk W w.heap.size 28 cs) (fun _=>false) (by kernel_rfl) HX.out.drew (fun hHeld=>?_)
  refine wpAnyT_take2 (i:=0) (v:=.agg cs) rfl rfl (by kernel_rfl) (by kernel_rfl) (by kernel_rfl) (by kernel_rfl) (fun _ _ _ h=>h) (Or.inl ⟨by rfl,fun W hSW=>run_rowK rfl rfl hSW Tryz.underlying28 rfl (by rw [hsz]; kernel_rfl)⟩) hHeld ?_
  simp only [qsa,qsb,qsc]
  refine qtq 1 ?_
  simp only [qsa,qsb,qsc]
  clear hHeld
  have hbd : Below w2.heap.size w2 w2.drew:=Below.drew (Below.refl _ _)
  replace HB:=Lib.hid (HB.out.trans (hbd.mono HB.out.size))
  try replace HX:=Lib.hid (HX.out.later hbd)
  try replace HO:=Lib.hid (HO.out.below hbd)
  try replace HC:=Lib.hid (HC.out.later hbd)
  try replace HK:=Lib.hid (And.intro (keep_cell hbd HK.out.1) (And.intro (keep_cell hbd HK.out.2.1) (keep_cell hbd HK.out.2.2)))
  clear hbd
  generalize w2.drew=w3 at *
  refine wpAnyT_next (i:=2) (by kernel_rfl) rfl ?_
  go_wp2_with fail
  have hc:=law_cases ⟨A,c,l⟩ w3 (HL.out.later HB.out) (by show l.length≤1000000; omega)
  simp only at hc
  refine hc.mono ?_
  clear hc
  rintro r w4 ⟨hb4,cA,cc,rfl,hco⟩
  have HCA:=Lib.hid (CasP.at_ hb4 hco (HL.out.later HB.out).all)
  replace HB:=Lib.hid (HB.out.trans (hb4.mono HB.out.size))
  try replace HX:=Lib.hid (HX.out.later hb4)
  try replace HO:=Lib.hid (HO.out.below hb4)
  try replace HC:=Lib.hid (HC.out.later hb4)
  try replace HK:=Lib.hid (And.intro (keep_cell hb4 HK.out.1) (And.intro (keep_cell hb4 HK.out.2.1) (keep_cell hb4 HK.out.2.2)))
  clear hb4
  clear hco
  go_wp2_with fail
  refine And.intro (by first | exact HX.out | exact fun _=>HX.out) ?_
  refine wpAnyT_next (i:=3) (by kernel_rfl) rfl ?_
  go_wp2_with fail
  have hc:=ch_Breaks b ⟨cA,cc,l⟩ w4 (HP.out.later HB.out) H40.out HCA.out (by show l.length≤1000000; omega)
  simp only [HCS.out] at hc
  obtain ⟨out,hout⟩ : ∃ x,brkL b 0 l=x:=⟨_,rfl⟩
  rw [hout] at hc
  have HOUT:=Lib.hid hout
  clear hout
  refine hc.mono ?_
  clear hc HCA
  rintro r w5 ⟨hb5,oA,oc,rfl,ho⟩
  have HO : Hid (Own (w.heap.size+1) 3 1 ienc w5 ⟨oA,oc,out⟩):=Lib.hid (ho.mono (by have:=HX.out.lt; omega))
  replace HB:=Lib.hid (HB.out.trans (hb5.mono HB.out.size))
  replace HX:=Lib.hid (HX.out.later hb5)
  clear hb5 ho
  go_wp2_with fail
  refine And.intro (by first | exact HX.out | exact fun _=>HX.out) ?_
  have hHeld:=HX.out
  refine qtq 4 ?_
  simp only [qsa,qsb,qsc]
  refine wpAnyT_done (by kernel_rfl) ?_ _
  clear hHeld
  have hol8 : out.length≤8:=by
    have:=HOUT.out
    have h2 : ∀ (i : Nat) (m : List CS),(brkL b i m).length≤m.length:=fun i m=>by
      induction m generalizing i with
      | nil=>exact Nat.le_refl _
      | cons x r ih=>unfold brkL; split <;> simp only [List.length_cons] <;> have:=ih (i+1) <;> omega
    have h3:=h2 0 l
    rw [this] at h3
    omega
  go_wp2_with fail
  go_loopw [9,10] (fun kv iv wr=>∃ (k i : Nat),k≤i∧i≤l.length∧kv = .int .i64 k∧iv = .int .i64 i∧Hid (Below w.heap.size w wr)∧Hid (Blk wr w.heap.size 28 cs)∧Hid (Own (w.heap.size+1) 3 1 ienc wr ⟨oA,oc,out⟩)∧Hid (out.drop k=brkL b i (l.drop i))∧Hid (k≤out.length)) (fun _ iv _=>l.length - (intOf iv).toNat)
  case atStart=>exact ⟨0,0,Nat.le_refl _,Nat.zero_le _,rfl,rfl,HB,HX,HO,Lib.hid (by rw [List.drop_zero,List.drop_zero,HOUT.out]),Lib.hid (Nat.zero_le _)⟩
  case round =>
    clear HB HX HO
    obtain ⟨k,i,hki,hil,rfl,rfl,HB,HX,HO,HD,HKL⟩:=hrel
    by_cases hlt : i<l.length
    · obtain ⟨bb,oo,hA,hbb,hcl⟩:=HL.out.rd.at1 hlt
      simp only at hA hbb hcl
      have hcl2:=hcl.keep (HB.out.block bb hbb)
      have hat:=HL.out.all l[i] (List.getElem_mem hlt)
      have hfi:=HF.out l[i] (List.getElem_mem hlt)
      have hd : l.drop i=l[i] :: l.drop (i+1):=List.drop_eq_getElem_cons hlt
      have hgo:=HD.out
      rw [hd] at hgo
      have HST:=Lib.hid (brk_step hgo)
      have HL40:=Lib.hid (H40.out (fun e=>by rw [e] at hlt; simp at hlt))
      clear hcl hd hgo HD
      generalize l[i]=x at *
      have HAT:=Lib.hid hat
      obtain ⟨⟨TA,Tc,T⟩,⟨MA,Mc,M⟩,f⟩:=x
      obtain ⟨g0,g1,g2⟩:=Cells.c3 hcl2
      simp only at g0 g1 g2 hfi
      have hlti : (i : Int)<(l.length : Int):=by omega
      have HFI:=Lib.hid hfi
      have HK:=Lib.hid (And.intro g0 (And.intro g1 g2))
      clear hcl2 hat hfi g0 g1 g2
      subst hA
      obtain ⟨⟨ab,ae⟩,ha⟩ : ∃ x,admC b T M=x:=⟨_,rfl⟩
      obtain ⟨⟨n,fe⟩,hf⟩ : ∃ x,whC b b.fa T M=x:=⟨_,rfl⟩
      have HKC : Hid (∀ z : Int,keptC b ⟨⟨TA,Tc,T⟩,⟨MA,Mc,M⟩,z⟩=(decide (ae=0) && (decide (fe=0) && (ab && decide (n≤z))))):=Lib.hid (fun z=>by unfold keptC; simp only [ha,hf])
      have HCH : Hid (ae=0→chkU b=0):=Lib.hid (fun h=>by
        by_cases hc : chkU b=0
        · exact hc
        · rw [admC_bad hc] at ha
          injection ha with _ h2
          omega)
      have HHA:=Lib.hid ha
      have HHF:=Lib.hid hf
      clear ha hf
      go_wp2_with fail
      refine wp_region_T (fun W=>Blk W w.heap.size 28 cs∧W.cell? ⟨bb,oo+i * 3,none⟩=some (.slice TA T.length Tc)∧W.cell? ⟨bb,oo+i * 3+1,none⟩=some (.slice MA M.length Mc)) (fun _=>false) (by kernel_rfl) ⟨HX.out.drew,HK.out.1,HK.out.2.1⟩ (fun hHeld=>?_)
      refine wpAnyT_take2 (i:=0) (v:=.agg cs) rfl rfl (by kernel_rfl) (by kernel_rfl) (by kernel_rfl) (by kernel_rfl) (fun _ _ _ h=>h) (Or.inl ⟨by rfl,fun W hSW=>run_rowK rfl rfl hSW.1 Tryz.underlying28 rfl (by rw [hsz]; kernel_rfl)⟩) hHeld ?_
      simp only [qsa,qsb,qsc]
      refine qtq 1 ?_
      simp only [qsa,qsb,qsc]
      refine qtq 2 ?_
      simp only [qsa,qsb,qsc]
      refine qtq 3 ?_
      simp only [qsa,qsb,qsc]
      refine qtq 4 ?_
      simp only [qsa,qsb,qsc]
      refine qtq 5 ?_
      simp only [qsa,qsb,qsc]
      refine qtq 6 ?_
      simp only [qsa,qsb,qsc]
      refine qtq 7 ?_
      simp only [qsa,qsb,qsc]
      refine qtq 8 ?_
      simp only [qsa,qsb,qsc]
      refine qtq 9 ?_
      simp only [qsa,qsb,qsc]
      refine qtq 10 ?_
      simp only [qsa,qsb,qsc]
      clear hHeld
      have hbd : Below wr.heap.size wr wr.drew:=Below.drew (Below.refl _ _)
      replace HB:=Lib.hid (HB.out.trans (hbd.mono HB.out.size))
      try replace HX:=Lib.hid (HX.out.later hbd)
      try replace HO:=Lib.hid (HO.out.below hbd)
      try replace HC:=Lib.hid (HC.out.later hbd)
      try replace HK:=Lib.hid (And.intro (keep_cell hbd HK.out.1) (And.intro (keep_cell hbd HK.out.2.1) (keep_cell hbd HK.out.2.2)))
      clear hbd
      generalize wr.drew=w6 at *
      refine wpAnyT_next (i:=11) (by kernel_rfl) rfl ?_
      go_wp2_with fail
      have hc:=(fare_Admit b ⟨TA,Tc,T⟩ ⟨MA,Mc,M⟩ w6 (HP.out.later HB.out) HL40.out (HAT.out.T.later HB.out) (HAT.out.M.later HB.out))
      simp only [HCS.out,HHA.out] at hc
      refine hc.mono ?_
      clear hc
      rintro r w7 ⟨rfl,hb⟩
      replace HB:=Lib.hid (HB.out.trans (hb.mono HB.out.size))
      try replace HX:=Lib.hid (HX.out.later hb)
      try replace HO:=Lib.hid (HO.out.below hb)
      try replace HC:=Lib.hid (HC.out.later hb)
      try replace HK:=Lib.hid (And.intro (keep_cell hb HK.out.1) (And.intro (keep_cell hb HK.out.2.1) (keep_cell hb HK.out.2.2)))
      clear hb
      go_wp2_with fail
      have hHeld:=And.intro HX.out (And.intro HK.out.1 HK.out.2.1)
      refine And.intro (by first | exact hHeld | exact fun _=>hHeld) ?_
      refine qtq 12 ?_
      simp only [qsa,qsb,qsc]
      refine qtq 13 ?_
      simp only [qsa,qsb,qsc]
      refine qtq 14 ?_
      simp only [qsa,qsb,qsc]
      refine qtq 15 ?_
      simp only [qsa,qsb,qsc]
      refine qtq 16 ?_
      simp only [qsa,qsb,qsc]
      refine wpAnyT_done (by kernel_rfl) ?_ _
      clear hHeld
      go_wp2_with fail
      refine wp_region_T (fun W=>Blk W w.heap.size 28 cs∧W.cell? ⟨bb,oo+i * 3,none⟩=some (.slice TA T.length Tc)∧W.cell? ⟨bb,oo+i * 3+1,none⟩=some (.slice MA M.length Mc)) (fun _=>false) (by kernel_rfl) ⟨HX.out.drew,HK.out.1,HK.out.2.1⟩ (fun hHeld=>?_)
      refine wpAnyT_take2 (i:=0) (v:=.agg cs) rfl rfl (by kernel_rfl) (by kernel_rfl) (by kernel_rfl) (by kernel_rfl) (fun _ _ _ h=>h) (Or.inl ⟨by rfl,fun W hSW=>run_rowK rfl rfl hSW.1 Tryz.underlying28 rfl (by rw [hsz]; kernel_rfl)⟩) hHeld ?_
      simp only [qsa,qsb,qsc]
      refine qtq 1 ?_
      simp only [qsa,qsb,qsc]
      refine qtq 2 ?_
      simp only [qsa,qsb,qsc]
      refine qtq 3 ?_
      simp only [qsa,qsb,qsc]
      refine qtq 4 ?_
      simp only [qsa,qsb,qsc]
      refine qtq 5 ?_
      simp only [qsa,qsb,qsc]
      refine qtq 6 ?_
      simp only [qsa,qsb,qsc]
      refine qtq 7 ?_
      simp only [qsa,qsb,qsc]
      refine qtq 8 ?_
      simp only [qsa,qsb,qsc]
      refine qtq 9 ?_
      simp only [qsa,qsb,qsc]
      refine qtq 10 ?_
      simp only [qsa,qsb,qsc]
      clear hHeld
      have hbd : Below w7.heap.size w7 w7.drew:=Below.drew (Below.refl _ _)
      replace HB:=Lib.hid (HB.out.trans (hbd.mono HB.out.size))
      try replace HX:=Lib.hid (HX.out.later hbd)
      try replace HO:=Lib.hid (HO.out.below hbd)
      try replace HC:=Lib.hid (HC.out.later hbd)
      try replace HK:=Lib.hid (And.intro (keep_cell hbd HK.out.1) (And.intro (keep_cell hbd HK.out.2.1) (keep_cell hbd HK.out.2.2)))
      clear hbd
      generalize w7.drew=w8 at *
      refine wpAnyT_next (i:=11) (by kernel_rfl) rfl ?_
      go_wp2_with fail
      have hc:=(fare_Fare b ⟨TA,Tc,T⟩ ⟨MA,Mc,M⟩ w8 (HP.out.later HB.out) HL40.out (HAT.out.T.later HB.out) (HAT.out.M.later HB.out))
      simp only [HCS.out,HHF.out] at hc
      refine hc.mono ?_
      clear hc
      rintro r w9 ⟨rfl,hb⟩
      replace HB:=Lib.hid (HB.out.trans (hb.mono HB.out.size))
      try replace HX:=Lib.hid (HX.out.later hb)
      try replace HO:=Lib.hid (HO.out.below hb)
      try replace HC:=Lib.hid (HC.out.later hb)
      try replace HK:=Lib.hid (And.intro (keep_cell hb HK.out.1) (And.intro (keep_cell hb HK.out.2.1) (keep_cell hb HK.out.2.2)))
      clear hb
      go_wp2_with fail
      have hHeld:=And.intro HX.out (And.intro HK.out.1 HK.out.2.1)
      refine And.intro (by first | exact hHeld | exact fun _=>hHeld) ?_
      refine qtq 12 ?_
      simp only [qsa,qsb,qsc]
      refine qtq 13 ?_
      simp only [qsa,qsb,qsc]
      refine qtq 14 ?_
      simp only [qsa,qsb,qsc]
      refine qtq 15 ?_
      simp only [qsa,qsb,qsc]
      refine qtq 16 ?_
      simp only [qsa,qsb,qsc]
      refine wpAnyT_done (by kernel_rfl) ?_ _
      clear hHeld
      clear HHA HHF
      have hrg : f<0∨(0≤f∧1000000000000000<f)∨(0≤f∧f≤1000000000000000):=by omega
      have HRG:=Lib.hid hrg
      clear hrg
      by_cases hK : keptC b ⟨⟨TA,Tc,T⟩,⟨MA,Mc,M⟩,f⟩=true
      · as_aux_lemma =>
          have hk4:=hK
          rw [HKC.out] at hk4
          simp only [Bool.and_eq_true,decide_eq_true_eq] at hk4
          obtain ⟨h1,h2,rfl,h3⟩:=hk4
          have HKA:=Lib.hid hK
          have HNN : Hid (keptC b ⟨⟨TA,Tc,T⟩,⟨MA,Mc,M⟩,n⟩=true):=Lib.hid (by rw [HKC.out,decide_eq_true h1,decide_eq_true h2]; simp)
          have HKM : Hid (keptC b ⟨⟨TA,Tc,T⟩,⟨MA,Mc,M⟩,f+more⟩=true):=Lib.hid (by rw [HKC.out,decide_eq_true h1,decide_eq_true h2,decide_eq_true (by omega : n≤f+more)]; rfl)
          have HCZ:=Lib.hid (HCH.out h1)
          have h1b : (ae == 0)=true:=by rw [h1]; rfl
          have h2b : (fe == 0)=true:=by rw [h2]; rfl
          have h3b : decide (n≤f)=true:=decide_eq_true h3
          have k2:=HK.out.2.2
          clear h1 h2 h3 hK
          go_wp2_with fail
          clear k2
          go_wp2_with fail
          refine wp_region_T (fun W=>W.cell? ⟨bb,oo+i * 3,none⟩=some (.slice TA T.length Tc)∧W.cell? ⟨bb,oo+i * 3+1,none⟩=some (.slice MA M.length Mc)∧W.cell? ⟨bb,oo+i * 3+2,none⟩=some (.int .i64 f)) (fun i=>17≤i) (by kernel_rfl) HK.out (fun hHeld=>?_)
          refine qtq 0 ?_
          simp only [qsa,qsb,qsc]
          refine qtq 1 ?_
          simp only [qsa,qsb,qsc]
          refine qtq 2 ?_
          simp only [qsa,qsb,qsc]
          refine qtq 3 ?_
          simp only [qsa,qsb,qsc]
          refine qtq 4 ?_
          simp only [qsa,qsb,qsc]
          refine qtq 5 ?_
          simp only [qsa,qsb,qsc]
          refine qtq 6 ?_
          simp only [qsa,qsb,qsc]
          refine qtq 7 ?_
          simp only [qsa,qsb,qsc]
          refine qtq 8 ?_
          simp only [qsa,qsb,qsc]
          refine qtq 9 ?_
          simp only [qsa,qsb,qsc]
          refine qtq 10 ?_
          simp only [qsa,qsb,qsc]
          refine qtq 11 ?_
          simp only [qsa,qsb,qsc]
          refine qtq 12 ?_
          simp only [qsa,qsb,qsc]
          refine qtq 13 ?_
          simp only [qsa,qsb,qsc]
          refine qtq 14 ?_
          simp only [qsa,qsb,qsc]
          refine qtq 15 ?_
          simp only [qsa,qsb,qsc]
          clear hHeld
          have hbd : Below w9.heap.size w9 w9.drew:=Below.drew (Below.refl _ _)
          replace HB:=Lib.hid (HB.out.trans (hbd.mono HB.out.size))
          try replace HX:=Lib.hid (HX.out.later hbd)
          try replace HO:=Lib.hid (HO.out.below hbd)
          try replace HC:=Lib.hid (HC.out.later hbd)
          try replace HK:=Lib.hid (And.intro (keep_cell hbd HK.out.1) (And.intro (keep_cell hbd HK.out.2.1) (keep_cell hbd HK.out.2.2)))
          clear hbd
          generalize w9.drew=w10 at *
          refine wpAnyT_next (i:=16) (by kernel_rfl) rfl ?_
          go_wp2_with fail
          refine And.intro (by first | exact ⟨kal _ HK.out.1,kal _ HK.out.2.1,kal _ HK.out.2.2⟩ | exact fun _=>⟨kal _ HK.out.1,kal _ HK.out.2.1,kal _ HK.out.2.2⟩) ?_
          refine wpAnyT_next (i:=17) (by kernel_rfl) rfl ?_
          go_wp2_with fail
          try simp only [QT]
          try (with_reducible refine And.intro (fun h=>by simp at h) ?_)
          refine wpAnyT_done (by kernel_rfl) ?_ _
          have hC : Blk (w10.alloc (.cells #[.slice TA T.length Tc,.slice MA M.length Mc,.int .i64 f] 60)) w10.heap.size 60 #[.slice TA T.length Tc,.slice MA M.length Mc,.int .i64 f]:=Blk.new _ _ _
          have hba : Below w10.heap.size w10 (w10.alloc (.cells #[.slice TA T.length Tc,.slice MA M.length Mc,.int .i64 f] 60)):=(Below.refl _ _).alloc (Nat.le_refl _) _
          have HOB : Hid (∀ m,oA=some ⟨m,0,none⟩→m<w10.heap.size):=Lib.hid HO.out.bound
          have HXB : Hid (w.heap.size<w10.heap.size):=Lib.hid HX.out.lt
          replace HB:=Lib.hid (HB.out.trans (hba.mono HB.out.size))
          try replace HX:=Lib.hid (HX.out.later hba)
          try replace HO:=Lib.hid (HO.out.below hba)
          try replace HC:=Lib.hid (HC.out.later hba)
          try replace HK:=Lib.hid (And.intro (keep_cell hba HK.out.1) (And.intro (keep_cell hba HK.out.2.1) (keep_cell hba HK.out.2.2)))
          clear hba
          have HC:=Lib.hid hC
          clear hC
          generalize w10.alloc (.cells #[.slice TA T.length Tc,.slice MA M.length Mc,.int .i64 f] 60)=w11 at *
          generalize w10.heap.size=g16 at *
          clear HK
          obtain ⟨c0,c1,c2,cf,cz⟩:=HC.out.b3
          go_wp2_with (refine wpl_load_rowW rfl 28 (.tmp 3) rfl w.heap.size rfl 28 cs (0,0) _ HX.out Tryz.underlying28 rfl (by rw [hsz]; kernel_rfl) ?_)
          have hba : Below w11.heap.size w11 (w11.alloc (.cells #[.slice TA T.length Tc,.slice MA M.length Mc,.int .i64 f] 60)):=(Below.refl _ _).alloc (Nat.le_refl _) _
          have hca:=case_one (f:=f) (⟨HAT.out.T.later HB.out,HAT.out.M.later HB.out⟩ : CS.At (· < w11.heap.size) w11 ⟨⟨TA,Tc,T⟩,⟨MA,Mc,M⟩,f⟩)
          replace HB:=Lib.hid (HB.out.trans (hba.mono HB.out.size))
          try replace HX:=Lib.hid (HX.out.later hba)
          try replace HO:=Lib.hid (HO.out.below hba)
          try replace HC:=Lib.hid (HC.out.later hba)
          try replace HK:=Lib.hid (And.intro (keep_cell hba HK.out.1) (And.intro (keep_cell hba HK.out.2.1) (keep_cell hba HK.out.2.2)))
          clear hba
          have hc:=ch_Breaks b _ _ (HP.out.later HB.out) (fun _=>HL40.out) hca (by show (1 : Nat)≤1000000; decide)
          simp only [HCS.out] at hc
          rw [(brkL_yes HKA.out)] at hc
          refine hc.mono ?_
          clear hc hca
          rintro r w12 ⟨hb,zA,zc,rfl,_⟩
          replace HB:=Lib.hid (HB.out.trans (hb.mono HB.out.size))
          try replace HX:=Lib.hid (HX.out.later hb)
          try replace HO:=Lib.hid (HO.out.below hb)
          try replace HC:=Lib.hid (HC.out.later hb)
          try replace HK:=Lib.hid (And.intro (keep_cell hb HK.out.1) (And.intro (keep_cell hb HK.out.2.1) (keep_cell hb HK.out.2.2)))
          clear hb
          rw [(show ([] : List Int).length=0 from rfl)]
          clear c0 c1 c2 cf cz
          rcases HRG.out with hr1 | ⟨hr1,hr2⟩ | ⟨hr1,hr2⟩
          case' inl =>
            obtain ⟨c0,c1,c2,cf,cz⟩:=HC.out.b3
            have hsC : Blk (w12.setCell ⟨g16,2,none⟩ (.int .i64 n)) g16 60 #[.slice TA T.length Tc,.slice MA M.length Mc,.int .i64 n]:=by simpa using HC.out.set_ 2 (.int .i64 n)
            have hsX : Blk (w12.setCell ⟨g16,2,none⟩ (.int .i64 n)) w.heap.size 28 cs:=HX.out.far (p:=⟨g16,2,none⟩) (by have:=HXB.out; simp only; omega) (.int .i64 n)
            have hsO:=HO.out.other (a:=⟨g16,2,none⟩) (fun g hgA=>by have:=HOB.out g hgA; simp only; omega) (.int .i64 n)
            have hsB : Below w.heap.size w (w12.setCell ⟨g16,2,none⟩ (.int .i64 n)):=HB.out.setCell (p:=⟨g16,2,none⟩) (by have:=HXB.out; simp only; omega) (.int .i64 n)
            have HC2:=Lib.hid hsC
            have HX2:=Lib.hid hsX
            have HO2:=Lib.hid hsO
            have HB2:=Lib.hid hsB
            clear hsC hsX hsO hsB
            go_wp2_with (refine wpl_load_rowW rfl 28 (.tmp 3) rfl w.heap.size rfl 28 cs (0,0) _ HX2.out Tryz.underlying28 rfl (by rw [hsz]; kernel_rfl) ?_)
            clear HC HX HO HB c0 c1 c2 cf cz
            have HC:=HC2
            have HX:=HX2
            have HO:=HO2
            have HB:=HB2
            clear HC2 HX2 HO2 HB2
            have hzz : w12.heap.size=(w12.setCell ⟨g16,2,none⟩ (.int .i64 n)).heap.size:=by simp
            try rw [hzz]
            clear hzz
            generalize w12.setCell ⟨g16,2,none⟩ (.int .i64 n)=wz at *
          case' inr.inl =>
            obtain ⟨c0,c1,c2,cf,cz⟩:=HC.out.b3
            have hsC : Blk (w12.setCell ⟨g16,2,none⟩ (.int .i64 n)) g16 60 #[.slice TA T.length Tc,.slice MA M.length Mc,.int .i64 n]:=by simpa using HC.out.set_ 2 (.int .i64 n)
            have hsX : Blk (w12.setCell ⟨g16,2,none⟩ (.int .i64 n)) w.heap.size 28 cs:=HX.out.far (p:=⟨g16,2,none⟩) (by have:=HXB.out; simp only; omega) (.int .i64 n)
            have hsO:=HO.out.other (a:=⟨g16,2,none⟩) (fun g hgA=>by have:=HOB.out g hgA; simp only; omega) (.int .i64 n)
            have hsB : Below w.heap.size w (w12.setCell ⟨g16,2,none⟩ (.int .i64 n)):=HB.out.setCell (p:=⟨g16,2,none⟩) (by have:=HXB.out; simp only; omega) (.int .i64 n)
            have HC2:=Lib.hid hsC
            have HX2:=Lib.hid hsX
            have HO2:=Lib.hid hsO
            have HB2:=Lib.hid hsB
            clear hsC hsX hsO hsB
            go_wp2_with (refine wpl_load_rowW rfl 28 (.tmp 3) rfl w.heap.size rfl 28 cs (0,0) _ HX2.out Tryz.underlying28 rfl (by rw [hsz]; kernel_rfl) ?_)
            clear HC HX HO HB c0 c1 c2 cf cz
            have HC:=HC2
            have HX:=HX2
            have HO:=HO2
            have HB:=HB2
            clear HC2 HX2 HO2 HB2
            have hzz : w12.heap.size=(w12.setCell ⟨g16,2,none⟩ (.int .i64 n)).heap.size:=by simp
            try rw [hzz]
            clear hzz
            generalize w12.setCell ⟨g16,2,none⟩ (.int .i64 n)=wz at *
          case' inr.inr =>
            obtain ⟨c0,c1,c2,cf,cz⟩:=HC.out.b3
            have hcv : IntKind.i64.wrap more=more:=by rw [IntKind.wrap_i64]; omega
            have hcw : IntKind.i64.wrap (f+more)=f+more:=by rw [IntKind.wrap_i64]; omega
            have hsC : Blk (w12.setCell ⟨g16,2,none⟩ (.int .i64 (f+more))) g16 60 #[.slice TA T.length Tc,.slice MA M.length Mc,.int .i64 (f+more)]:=by simpa using HC.out.set_ 2 (.int .i64 (f+more))
            have hsX : Blk (w12.setCell ⟨g16,2,none⟩ (.int .i64 (f+more))) w.heap.size 28 cs:=HX.out.far (p:=⟨g16,2,none⟩) (by have:=HXB.out; simp only; omega) (.int .i64 (f+more))
            have hsO:=HO.out.other (a:=⟨g16,2,none⟩) (fun g hgA=>by have:=HOB.out g hgA; simp only; omega) (.int .i64 (f+more))
            have hsB : Below w.heap.size w (w12.setCell ⟨g16,2,none⟩ (.int .i64 (f+more))):=HB.out.setCell (p:=⟨g16,2,none⟩) (by have:=HXB.out; simp only; omega) (.int .i64 (f+more))
            have HC2:=Lib.hid hsC
            have HX2:=Lib.hid hsX
            have HO2:=Lib.hid hsO
            have HB2:=Lib.hid hsB
            clear hsC hsX hsO hsB
            go_wp2_with (refine wpl_load_rowW rfl 28 (.tmp 3) rfl w.heap.size rfl 28 cs (0,0) _ HX2.out Tryz.underlying28 rfl (by rw [hsz]; kernel_rfl) ?_)
            clear HC HX HO HB c0 c1 c2 cf cz
            have HC:=HC2
            have HX:=HX2
            have HO:=HO2
            have HB:=HB2
            clear HC2 HX2 HO2 HB2
            have hzz : w12.heap.size=(w12.setCell ⟨g16,2,none⟩ (.int .i64 (f+more))).heap.size:=by simp
            try rw [hzz]
            clear hzz
            generalize w12.setCell ⟨g16,2,none⟩ (.int .i64 (f+more))=w13 at *
            have hba : Below w13.heap.size w13 (w13.alloc (.cells #[.slice TA T.length Tc,.slice MA M.length Mc,.int .i64 (f+more)] 60)):=(Below.refl _ _).alloc (Nat.le_refl _) _
            have hca:=case_one (f:=(f+more)) (⟨HAT.out.T.later HB.out,HAT.out.M.later HB.out⟩ : CS.At (· < w13.heap.size) w13 ⟨⟨TA,Tc,T⟩,⟨MA,Mc,M⟩,(f+more)⟩)
            replace HB:=Lib.hid (HB.out.trans (hba.mono HB.out.size))
            try replace HX:=Lib.hid (HX.out.later hba)
            try replace HO:=Lib.hid (HO.out.below hba)
            try replace HC:=Lib.hid (HC.out.later hba)
            try replace HK:=Lib.hid (And.intro (keep_cell hba HK.out.1) (And.intro (keep_cell hba HK.out.2.1) (keep_cell hba HK.out.2.2)))
            clear hba
            have hc:=ch_Breaks b _ _ (HP.out.later HB.out) (fun _=>HL40.out) hca (by show (1 : Nat)≤1000000; decide)
            simp only [HCS.out] at hc
            rw [(brkL_yes HKM.out)] at hc
            refine hc.mono ?_
            clear hc hca
            rintro r w14 ⟨hb,zA,zc,rfl,_⟩
            replace HB:=Lib.hid (HB.out.trans (hb.mono HB.out.size))
            try replace HX:=Lib.hid (HX.out.later hb)
            try replace HO:=Lib.hid (HO.out.below hb)
            try replace HC:=Lib.hid (HC.out.later hb)
            try replace HK:=Lib.hid (And.intro (keep_cell hb HK.out.1) (And.intro (keep_cell hb HK.out.2.1) (keep_cell hb HK.out.2.2)))
            clear hb
            rw [(show ([] : List Int).length=0 from rfl)]
            obtain ⟨c0,c1,c2,cf,cz⟩:=HC.out.b3
            have hsC : Blk (w14.setCell ⟨g16,2,none⟩ (.int .i64 n)) g16 60 #[.slice TA T.length Tc,.slice MA M.length Mc,.int .i64 n]:=by simpa using HC.out.set_ 2 (.int .i64 n)
            have hsX : Blk (w14.setCell ⟨g16,2,none⟩ (.int .i64 n)) w.heap.size 28 cs:=HX.out.far (p:=⟨g16,2,none⟩) (by have:=HXB.out; simp only; omega) (.int .i64 n)
            have hsO:=HO.out.other (a:=⟨g16,2,none⟩) (fun g hgA=>by have:=HOB.out g hgA; simp only; omega) (.int .i64 n)
            have hsB : Below w.heap.size w (w14.setCell ⟨g16,2,none⟩ (.int .i64 n)):=HB.out.setCell (p:=⟨g16,2,none⟩) (by have:=HXB.out; simp only; omega) (.int .i64 n)
            have HC2:=Lib.hid hsC
            have HX2:=Lib.hid hsX
            have HO2:=Lib.hid hsO
            have HB2:=Lib.hid hsB
            clear hsC hsX hsO hsB
            go_wp2_with (refine wpl_load_rowW rfl 28 (.tmp 3) rfl w.heap.size rfl 28 cs (0,0) _ HX2.out Tryz.underlying28 rfl (by rw [hsz]; kernel_rfl) ?_)
            clear HC HX HO HB c0 c1 c2 cf cz
            have HC:=HC2
            have HX:=HX2
            have HO:=HO2
            have HB:=HB2
            clear HC2 HX2 HO2 HB2
            have hzz : w14.heap.size=(w14.setCell ⟨g16,2,none⟩ (.int .i64 n)).heap.size:=by simp
            try rw [hzz]
            clear hzz
            generalize w14.setCell ⟨g16,2,none⟩ (.int .i64 n)=wz at *
          all_goals
            have hba : Below wz.heap.size wz (wz.alloc (.cells #[.slice TA T.length Tc,.slice MA M.length Mc,.int .i64 n] 60)):=(Below.refl _ _).alloc (Nat.le_refl _) _
            have hca:=case_one (f:=n) (⟨HAT.out.T.later HB.out,HAT.out.M.later HB.out⟩ : CS.At (· < wz.heap.size) wz ⟨⟨TA,Tc,T⟩,⟨MA,Mc,M⟩,n⟩)
            replace HB:=Lib.hid (HB.out.trans (hba.mono HB.out.size))
            try replace HX:=Lib.hid (HX.out.later hba)
            try replace HO:=Lib.hid (HO.out.below hba)
            try replace HC:=Lib.hid (HC.out.later hba)
            try replace HK:=Lib.hid (And.intro (keep_cell hba HK.out.1) (And.intro (keep_cell hba HK.out.2.1) (keep_cell hba HK.out.2.2)))
            clear hba
            have hc:=ch_Breaks b _ _ (HP.out.later HB.out) (fun _=>HL40.out) hca (by show (1 : Nat)≤1000000; decide)
            simp only [HCS.out] at hc
            rw [(brkL_yes HNN.out)] at hc
            refine hc.mono ?_
            clear hc hca
            rintro r wy ⟨hb,zA,zc,rfl,_⟩
            replace HB:=Lib.hid (HB.out.trans (hb.mono HB.out.size))
            try replace HX:=Lib.hid (HX.out.later hb)
            try replace HO:=Lib.hid (HO.out.below hb)
            try replace HC:=Lib.hid (HC.out.later hb)
            try replace HK:=Lib.hid (And.intro (keep_cell hb HK.out.1) (And.intro (keep_cell hb HK.out.2.1) (keep_cell hb HK.out.2.2)))
            clear hb
            rw [(show ([] : List Int).length=0 from rfl)]
            go_wp2_with (refine wpl_load_rowW rfl 28 (.tmp 3) rfl w.heap.size rfl 28 cs (0,0) _ HX.out Tryz.underlying28 rfl (by rw [hsz]; kernel_rfl) ?_)
            have hc:=un_Check b wy (HP.out.later HB.out) HL40.out
            rw [HCS.out,HCZ.out] at hc
            refine hc.mono ?_
            clear hc
            rintro r wx ⟨rfl,hb⟩
            replace HB:=Lib.hid (HB.out.trans (hb.mono HB.out.size))
            try replace HX:=Lib.hid (HX.out.later hb)
            try replace HO:=Lib.hid (HO.out.below hb)
            try replace HC:=Lib.hid (HC.out.later hb)
            try replace HK:=Lib.hid (And.intro (keep_cell hb HK.out.1) (And.intro (keep_cell hb HK.out.2.1) (keep_cell hb HK.out.2.2)))
            clear hb
            go_wp2_with fail
            go_roundw
            case rel=>exact ⟨k,i+1,by omega,by omega,rfl,by go_num,HB,HX,HO,Lib.hid (HST.out.1 HKA.out),HKL⟩
            case measure=>simp [intOf]; omega
      · have hKf : keptC b ⟨⟨TA,Tc,T⟩,⟨MA,Mc,M⟩,f⟩=false:=by simpa using hK
        have HKF:=Lib.hid hKf
        have hk4:=hKf
        rw [HKC.out] at hk4
        by_cases hC : ae=0∧fe=0∧ab=true
        · as_aux_lemma =>
            obtain ⟨h1,h2,rfl⟩:=hC
            have h3 : ¬ n≤f:=fun h=>by rw [decide_eq_true h1,decide_eq_true h2,decide_eq_true h] at hk4; exact absurd hk4 (by decide)
            have HNN : Hid (keptC b ⟨⟨TA,Tc,T⟩,⟨MA,Mc,M⟩,n⟩=true):=Lib.hid (by rw [HKC.out,decide_eq_true h1,decide_eq_true h2]; simp)
            have HCZ:=Lib.hid (HCH.out h1)
            have h1b : (ae == 0)=true:=by rw [h1]; rfl
            have h2b : (fe == 0)=true:=by rw [h2]; rfl
            have h3b : decide (n≤f)=false:=decide_eq_false h3
            have k2:=HK.out.2.2
            clear h1 h2 h3 hK hKf hk4
            go_wp2_with fail
            clear k2
            go_wp2_with fail
            refine wp_region_T (fun W=>W.cell? ⟨bb,oo+i * 3,none⟩=some (.slice TA T.length Tc)∧W.cell? ⟨bb,oo+i * 3+1,none⟩=some (.slice MA M.length Mc)∧W.cell? ⟨bb,oo+i * 3+2,none⟩=some (.int .i64 f)) (fun i=>17≤i) (by kernel_rfl) HK.out (fun hHeld=>?_)
            refine qtq 0 ?_
            simp only [qsa,qsb,qsc]
            refine qtq 1 ?_
            simp only [qsa,qsb,qsc]
            refine qtq 2 ?_
            simp only [qsa,qsb,qsc]
            refine qtq 3 ?_
            simp only [qsa,qsb,qsc]
            refine qtq 4 ?_
            simp only [qsa,qsb,qsc]
            refine qtq 5 ?_
            simp only [qsa,qsb,qsc]
            refine qtq 6 ?_
            simp only [qsa,qsb,qsc]
            refine qtq 7 ?_
            simp only [qsa,qsb,qsc]
            refine qtq 8 ?_
            simp only [qsa,qsb,qsc]
            refine qtq 9 ?_
            simp only [qsa,qsb,qsc]
            refine qtq 10 ?_
            simp only [qsa,qsb,qsc]
            refine qtq 11 ?_
            simp only [qsa,qsb,qsc]
            refine qtq 12 ?_
            simp only [qsa,qsb,qsc]
            refine qtq 13 ?_
            simp only [qsa,qsb,qsc]
            refine qtq 14 ?_
            simp only [qsa,qsb,qsc]
            refine qtq 15 ?_
            simp only [qsa,qsb,qsc]
            clear hHeld
            have hbd : Below w9.heap.size w9 w9.drew:=Below.drew (Below.refl _ _)
            replace HB:=Lib.hid (HB.out.trans (hbd.mono HB.out.size))
            try replace HX:=Lib.hid (HX.out.later hbd)
            try replace HO:=Lib.hid (HO.out.below hbd)
            try replace HC:=Lib.hid (HC.out.later hbd)
            try replace HK:=Lib.hid (And.intro (keep_cell hbd HK.out.1) (And.intro (keep_cell hbd HK.out.2.1) (keep_cell hbd HK.out.2.2)))
            clear hbd
            generalize w9.drew=w10 at *
            refine wpAnyT_next (i:=16) (by kernel_rfl) rfl ?_
            go_wp2_with fail
            refine And.intro (by first | exact ⟨kal _ HK.out.1,kal _ HK.out.2.1,kal _ HK.out.2.2⟩ | exact fun _=>⟨kal _ HK.out.1,kal _ HK.out.2.1,kal _ HK.out.2.2⟩) ?_
            refine wpAnyT_next (i:=17) (by kernel_rfl) rfl ?_
            go_wp2_with fail
            try simp only [QT]
            try (with_reducible refine And.intro (fun h=>by simp at h) ?_)
            refine wpAnyT_done (by kernel_rfl) ?_ _
            have hC : Blk (w10.alloc (.cells #[.slice TA T.length Tc,.slice MA M.length Mc,.int .i64 f] 60)) w10.heap.size 60 #[.slice TA T.length Tc,.slice MA M.length Mc,.int .i64 f]:=Blk.new _ _ _
            have hba : Below w10.heap.size w10 (w10.alloc (.cells #[.slice TA T.length Tc,.slice MA M.length Mc,.int .i64 f] 60)):=(Below.refl _ _).alloc (Nat.le_refl _) _
            have HOB : Hid (∀ m,oA=some ⟨m,0,none⟩→m<w10.heap.size):=Lib.hid HO.out.bound
            have HXB : Hid (w.heap.size<w10.heap.size):=Lib.hid HX.out.lt
            replace HB:=Lib.hid (HB.out.trans (hba.mono HB.out.size))
            try replace HX:=Lib.hid (HX.out.later hba)
            try replace HO:=Lib.hid (HO.out.below hba)
            try replace HC:=Lib.hid (HC.out.later hba)
            try replace HK:=Lib.hid (And.intro (keep_cell hba HK.out.1) (And.intro (keep_cell hba HK.out.2.1) (keep_cell hba HK.out.2.2)))
            clear hba
            have HC:=Lib.hid hC
            clear hC
            generalize w10.alloc (.cells #[.slice TA T.length Tc,.slice MA M.length Mc,.int .i64 f] 60)=w11 at *
            generalize w10.heap.size=g16 at *
            clear HK
            obtain ⟨c0,c1,c2,cf,cz⟩:=HC.out.b3
            go_wp2_with (refine wpl_load_rowW rfl 28 (.tmp 3) rfl w.heap.size rfl 28 cs (0,0) _ HX.out Tryz.underlying28 rfl (by rw [hsz]; kernel_rfl) ?_)
            have hba : Below w11.heap.size w11 (w11.alloc (.cells #[.slice TA T.length Tc,.slice MA M.length Mc,.int .i64 f] 60)):=(Below.refl _ _).alloc (Nat.le_refl _) _
            have hca:=case_one (f:=f) (⟨HAT.out.T.later HB.out,HAT.out.M.later HB.out⟩ : CS.At (· < w11.heap.size) w11 ⟨⟨TA,Tc,T⟩,⟨MA,Mc,M⟩,f⟩)
            replace HB:=Lib.hid (HB.out.trans (hba.mono HB.out.size))
            try replace HX:=Lib.hid (HX.out.later hba)
            try replace HO:=Lib.hid (HO.out.below hba)
            try replace HC:=Lib.hid (HC.out.later hba)
            try replace HK:=Lib.hid (And.intro (keep_cell hba HK.out.1) (And.intro (keep_cell hba HK.out.2.1) (keep_cell hba HK.out.2.2)))
            clear hba
            have hc:=ch_Breaks b _ _ (HP.out.later HB.out) (fun _=>HL40.out) hca (by show (1 : Nat)≤1000000; decide)
            simp only [HCS.out] at hc
            rw [(brkL_no HKF.out)] at hc
            refine hc.mono ?_
            clear hc hca
            rintro r w12 ⟨hb,zA,zc,rfl,_⟩
            replace HB:=Lib.hid (HB.out.trans (hb.mono HB.out.size))
            try replace HX:=Lib.hid (HX.out.later hb)
            try replace HO:=Lib.hid (HO.out.below hb)
            try replace HC:=Lib.hid (HC.out.later hb)
            try replace HK:=Lib.hid (And.intro (keep_cell hb HK.out.1) (And.intro (keep_cell hb HK.out.2.1) (keep_cell hb HK.out.2.2)))
            clear hb
            rw [(show ([0] : List Int).length=1 from rfl)]
            clear c0 c1 c2 cf cz
            obtain ⟨hox,hkl0,_⟩:=HST.out.2 HKF.out
            obtain ⟨ob,oo2,hoA,_,ou⟩:=(HO.out.rd ienc_k).getv hox
            simp only at hoA
            subst hoA
            have hkl : (k : Int)<(out.length : Int):=by omega
            have hkn : decide ((out.length : Int)≤(k : Int))=false:=decide_eq_false (by omega)
            have hkm : decide (out.length≤k)=false:=decide_eq_false (by omega)
            have hw1 : IntKind.i64.wrap ((out.length : Int) - 1)=(out.length : Int) - 1:=by rw [IntKind.wrap_i64]; omega
            have hwk : IntKind.i64.wrap ((k : Int)+1)=(k : Int)+1:=by rw [IntKind.wrap_i64]; omega
            have hmx : ¬ (out.length : Int) - 1<0:=by omega
            have hmn : ¬ (out.length : Int) - 1<(k : Int):=by omega
            clear hox hkl0
            rcases HRG.out with hr1 | ⟨hr1,hr2⟩ | ⟨hr1,hr2⟩
            case' inl =>
              obtain ⟨c0,c1,c2,cf,cz⟩:=HC.out.b3
              have hsC : Blk (w12.setCell ⟨g16,2,none⟩ (.int .i64 n)) g16 60 #[.slice TA T.length Tc,.slice MA M.length Mc,.int .i64 n]:=by simpa using HC.out.set_ 2 (.int .i64 n)
              have hsX : Blk (w12.setCell ⟨g16,2,none⟩ (.int .i64 n)) w.heap.size 28 cs:=HX.out.far (p:=⟨g16,2,none⟩) (by have:=HXB.out; simp only; omega) (.int .i64 n)
              have hsO:=HO.out.other (a:=⟨g16,2,none⟩) (fun g hgA=>by have:=HOB.out g hgA; simp only; omega) (.int .i64 n)
              have hsB : Below w.heap.size w (w12.setCell ⟨g16,2,none⟩ (.int .i64 n)):=HB.out.setCell (p:=⟨g16,2,none⟩) (by have:=HXB.out; simp only; omega) (.int .i64 n)
              have HC2:=Lib.hid hsC
              have HX2:=Lib.hid hsX
              have HO2:=Lib.hid hsO
              have HB2:=Lib.hid hsB
              clear hsC hsX hsO hsB
              go_wp2_with (refine wpl_load_rowW rfl 28 (.tmp 3) rfl w.heap.size rfl 28 cs (0,0) _ HX2.out Tryz.underlying28 rfl (by rw [hsz]; kernel_rfl) ?_)
              clear HC HX HO HB c0 c1 c2 cf cz
              have HC:=HC2
              have HX:=HX2
              have HO:=HO2
              have HB:=HB2
              clear HC2 HX2 HO2 HB2
              have hzz : w12.heap.size=(w12.setCell ⟨g16,2,none⟩ (.int .i64 n)).heap.size:=by simp
              try rw [hzz]
              clear hzz
              generalize w12.setCell ⟨g16,2,none⟩ (.int .i64 n)=wz at *
            case' inr.inl =>
              obtain ⟨c0,c1,c2,cf,cz⟩:=HC.out.b3
              have hsC : Blk (w12.setCell ⟨g16,2,none⟩ (.int .i64 n)) g16 60 #[.slice TA T.length Tc,.slice MA M.length Mc,.int .i64 n]:=by simpa using HC.out.set_ 2 (.int .i64 n)
              have hsX : Blk (w12.setCell ⟨g16,2,none⟩ (.int .i64 n)) w.heap.size 28 cs:=HX.out.far (p:=⟨g16,2,none⟩) (by have:=HXB.out; simp only; omega) (.int .i64 n)
              have hsO:=HO.out.other (a:=⟨g16,2,none⟩) (fun g hgA=>by have:=HOB.out g hgA; simp only; omega) (.int .i64 n)
              have hsB : Below w.heap.size w (w12.setCell ⟨g16,2,none⟩ (.int .i64 n)):=HB.out.setCell (p:=⟨g16,2,none⟩) (by have:=HXB.out; simp only; omega) (.int .i64 n)
              have HC2:=Lib.hid hsC
              have HX2:=Lib.hid hsX
              have HO2:=Lib.hid hsO
              have HB2:=Lib.hid hsB
              clear hsC hsX hsO hsB
              go_wp2_with (refine wpl_load_rowW rfl 28 (.tmp 3) rfl w.heap.size rfl 28 cs (0,0) _ HX2.out Tryz.underlying28 rfl (by rw [hsz]; kernel_rfl) ?_)
              clear HC HX HO HB c0 c1 c2 cf cz
              have HC:=HC2
              have HX:=HX2
              have HO:=HO2
              have HB:=HB2
              clear HC2 HX2 HO2 HB2
              have hzz : w12.heap.size=(w12.setCell ⟨g16,2,none⟩ (.int .i64 n)).heap.size:=by simp
              try rw [hzz]
              clear hzz
              generalize w12.setCell ⟨g16,2,none⟩ (.int .i64 n)=wz at *
            case' inr.inr =>
              obtain ⟨c0,c1,c2,cf,cz⟩:=HC.out.b3
              have hcv : IntKind.i64.wrap more=more:=by rw [IntKind.wrap_i64]; omega
              have hcw : IntKind.i64.wrap (f+more)=f+more:=by rw [IntKind.wrap_i64]; omega
              have hsC : Blk (w12.setCell ⟨g16,2,none⟩ (.int .i64 (f+more))) g16 60 #[.slice TA T.length Tc,.slice MA M.length Mc,.int .i64 (f+more)]:=by simpa using HC.out.set_ 2 (.int .i64 (f+more))
              have hsX : Blk (w12.setCell ⟨g16,2,none⟩ (.int .i64 (f+more))) w.heap.size 28 cs:=HX.out.far (p:=⟨g16,2,none⟩) (by have:=HXB.out; simp only; omega) (.int .i64 (f+more))
              have hsO:=HO.out.other (a:=⟨g16,2,none⟩) (fun g hgA=>by have:=HOB.out g hgA; simp only; omega) (.int .i64 (f+more))
              have hsB : Below w.heap.size w (w12.setCell ⟨g16,2,none⟩ (.int .i64 (f+more))):=HB.out.setCell (p:=⟨g16,2,none⟩) (by have:=HXB.out; simp only; omega) (.int .i64 (f+more))
              have HC2:=Lib.hid hsC
              have HX2:=Lib.hid hsX
              have HO2:=Lib.hid hsO
              have HB2:=Lib.hid hsB
              clear hsC hsX hsO hsB
              go_upto_if 150 with fail
              clear HC HX HO HB c0 c1 c2 cf cz
              have HC:=HC2
              have HX:=HX2
              have HO:=HO2
              have HB:=HB2
              clear HC2 HX2 HO2 HB2
              have hzz : w12.heap.size=(w12.setCell ⟨g16,2,none⟩ (.int .i64 (f+more))).heap.size:=by simp
              try rw [hzz]
              clear hzz
              generalize w12.setCell ⟨g16,2,none⟩ (.int .i64 (f+more))=w13 at *
              obtain ⟨c0,c1,c2,cf,cz⟩:=HC.out.b3
              have hsC : Blk (w13.setCell ⟨g16,2,none⟩ (.int .i64 n)) g16 60 #[.slice TA T.length Tc,.slice MA M.length Mc,.int .i64 n]:=by simpa using HC.out.set_ 2 (.int .i64 n)
              have hsX : Blk (w13.setCell ⟨g16,2,none⟩ (.int .i64 n)) w.heap.size 28 cs:=HX.out.far (p:=⟨g16,2,none⟩) (by have:=HXB.out; simp only; omega) (.int .i64 n)
              have hsO:=HO.out.other (a:=⟨g16,2,none⟩) (fun g hgA=>by have:=HOB.out g hgA; simp only; omega) (.int .i64 n)
              have hsB : Below w.heap.size w (w13.setCell ⟨g16,2,none⟩ (.int .i64 n)):=HB.out.setCell (p:=⟨g16,2,none⟩) (by have:=HXB.out; simp only; omega) (.int .i64 n)
              have HC2:=Lib.hid hsC
              have HX2:=Lib.hid hsX
              have HO2:=Lib.hid hsO
              have HB2:=Lib.hid hsB
              clear hsC hsX hsO hsB
              go_wp2_with (refine wpl_load_rowW rfl 28 (.tmp 3) rfl w.heap.size rfl 28 cs (0,0) _ HX2.out Tryz.underlying28 rfl (by rw [hsz]; kernel_rfl) ?_)
              clear HC HX HO HB c0 c1 c2 cf cz
              have HC:=HC2
              have HX:=HX2
              have HO:=HO2
              have HB:=HB2
              clear HC2 HX2 HO2 HB2
              have hzz : w13.heap.size=(w13.setCell ⟨g16,2,none⟩ (.int .i64 n)).heap.size:=by simp
              try rw [hzz]
              clear hzz
              generalize w13.setCell ⟨g16,2,none⟩ (.int .i64 n)=wz at *
            all_goals
              clear ou hkl hkn hkm hw1 hwk hmx hmn
              have hba : Below wz.heap.size wz (wz.alloc (.cells #[.slice TA T.length Tc,.slice MA M.length Mc,.int .i64 n] 60)):=(Below.refl _ _).alloc (Nat.le_refl _) _
              have hca:=case_one (f:=n) (⟨HAT.out.T.later HB.out,HAT.out.M.later HB.out⟩ : CS.At (· < wz.heap.size) wz ⟨⟨TA,Tc,T⟩,⟨MA,Mc,M⟩,n⟩)
              replace HB:=Lib.hid (HB.out.trans (hba.mono HB.out.size))
              try replace HX:=Lib.hid (HX.out.later hba)
              try replace HO:=Lib.hid (HO.out.below hba)
              try replace HC:=Lib.hid (HC.out.later hba)
              try replace HK:=Lib.hid (And.intro (keep_cell hba HK.out.1) (And.intro (keep_cell hba HK.out.2.1) (keep_cell hba HK.out.2.2)))
              clear hba
              have hc:=ch_Breaks b _ _ (HP.out.later HB.out) (fun _=>HL40.out) hca (by show (1 : Nat)≤1000000; decide)
              simp only [HCS.out] at hc
              rw [(brkL_yes HNN.out)] at hc
              refine hc.mono ?_
              clear hc hca
              rintro r wy ⟨hb,zA,zc,rfl,_⟩
              replace HB:=Lib.hid (HB.out.trans (hb.mono HB.out.size))
              try replace HX:=Lib.hid (HX.out.later hb)
              try replace HO:=Lib.hid (HO.out.below hb)
              try replace HC:=Lib.hid (HC.out.later hb)
              try replace HK:=Lib.hid (And.intro (keep_cell hb HK.out.1) (And.intro (keep_cell hb HK.out.2.1) (keep_cell hb HK.out.2.2)))
              clear hb
              rw [(show ([] : List Int).length=0 from rfl)]
              go_wp2_with (refine wpl_load_rowW rfl 28 (.tmp 3) rfl w.heap.size rfl 28 cs (0,0) _ HX.out Tryz.underlying28 rfl (by rw [hsz]; kernel_rfl) ?_)
              have hc:=un_Check b wy (HP.out.later HB.out) HL40.out
              rw [HCS.out,HCZ.out] at hc
              refine hc.mono ?_
              clear hc
              rintro r wx ⟨rfl,hb⟩
              replace HB:=Lib.hid (HB.out.trans (hb.mono HB.out.size))
              try replace HX:=Lib.hid (HX.out.later hb)
              try replace HO:=Lib.hid (HO.out.below hb)
              try replace HC:=Lib.hid (HC.out.later hb)
              try replace HK:=Lib.hid (And.intro (keep_cell hb HK.out.1) (And.intro (keep_cell hb HK.out.2.1) (keep_cell hb HK.out.2.2)))
              clear hb
              go_wp2_with fail
              go_roundw
              case rel=>exact ⟨k+1,i+1,by omega,by omega,by go_num,by go_num,HB,HX,HO,Lib.hid (HST.out.2 HKF.out).2.2,Lib.hid (HST.out.2 HKF.out).2.1⟩
              case measure=>simp [intOf]; omega
        · have hsub : ab=false∨(ab=true∧ae≠0)∨(ab=true∧ae=0∧fe≠0):=by
            rcases ab with _ | _
            · exact .inl rfl
            · by_cases h1 : ae=0
              · exact .inr (.inr ⟨rfl,h1,fun h2=>hC ⟨h1,h2,rfl⟩⟩)
              · exact .inr (.inl ⟨rfl,h1⟩)
          clear hC hk4 hK hKf
          rcases hsub with rfl | ⟨rfl,h1⟩ | ⟨rfl,h1,h2⟩
          case' inl =>
            go_wp2_with fail
          case' inr.inl =>
            have h1b : (ae == 0)=false:=by simpa using h1
            clear h1
            go_wp2_with fail
          case' inr.inr =>
            have h1b : (ae == 0)=true:=by rw [h1]; rfl
            have h2b : (fe == 0)=false:=by simpa using h2
            clear h1 h2
            go_wp2_with fail
          all_goals
            as_aux_lemma =>
              go_wp2_with fail
              refine wp_region_T (fun W=>W.cell? ⟨bb,oo+i * 3,none⟩=some (.slice TA T.length Tc)∧W.cell? ⟨bb,oo+i * 3+1,none⟩=some (.slice MA M.length Mc)∧W.cell? ⟨bb,oo+i * 3+2,none⟩=some (.int .i64 f)) (fun i=>17≤i) (by kernel_rfl) HK.out (fun hHeld=>?_)
              refine qtq 0 ?_
              simp only [qsa,qsb,qsc]
              refine qtq 1 ?_
              simp only [qsa,qsb,qsc]
              refine qtq 2 ?_
              simp only [qsa,qsb,qsc]
              refine qtq 3 ?_
              simp only [qsa,qsb,qsc]
              refine qtq 4 ?_
              simp only [qsa,qsb,qsc]
              refine qtq 5 ?_
              simp only [qsa,qsb,qsc]
              refine qtq 6 ?_
              simp only [qsa,qsb,qsc]
              refine qtq 7 ?_
              simp only [qsa,qsb,qsc]
              refine qtq 8 ?_
              simp only [qsa,qsb,qsc]
              refine qtq 9 ?_
              simp only [qsa,qsb,qsc]
              refine qtq 10 ?_
              simp only [qsa,qsb,qsc]
              refine qtq 11 ?_
              simp only [qsa,qsb,qsc]
              refine qtq 12 ?_
              simp only [qsa,qsb,qsc]
              refine qtq 13 ?_
              simp only [qsa,qsb,qsc]
              refine qtq 14 ?_
              simp only [qsa,qsb,qsc]
              refine qtq 15 ?_
              simp only [qsa,qsb,qsc]
              clear hHeld
              have hbd : Below w9.heap.size w9 w9.drew:=Below.drew (Below.refl _ _)
              replace HB:=Lib.hid (HB.out.trans (hbd.mono HB.out.size))
              try replace HX:=Lib.hid (HX.out.later hbd)
              try replace HO:=Lib.hid (HO.out.below hbd)
              try replace HC:=Lib.hid (HC.out.later hbd)
              try replace HK:=Lib.hid (And.intro (keep_cell hbd HK.out.1) (And.intro (keep_cell hbd HK.out.2.1) (keep_cell hbd HK.out.2.2)))
              clear hbd
              generalize w9.drew=w10 at *
              refine wpAnyT_next (i:=16) (by kernel_rfl) rfl ?_
              go_wp2_with fail
              refine And.intro (by first | exact ⟨kal _ HK.out.1,kal _ HK.out.2.1,kal _ HK.out.2.2⟩ | exact fun _=>⟨kal _ HK.out.1,kal _ HK.out.2.1,kal _ HK.out.2.2⟩) ?_
              refine wpAnyT_next (i:=17) (by kernel_rfl) rfl ?_
              go_wp2_with fail
              try simp only [QT]
              try (with_reducible refine And.intro (fun h=>by simp at h) ?_)
              refine wpAnyT_done (by kernel_rfl) ?_ _
              have hC : Blk (w10.alloc (.cells #[.slice TA T.length Tc,.slice MA M.length Mc,.int .i64 f] 60)) w10.heap.size 60 #[.slice TA T.length Tc,.slice MA M.length Mc,.int .i64 f]:=Blk.new _ _ _
              have hba : Below w10.heap.size w10 (w10.alloc (.cells #[.slice TA T.length Tc,.slice MA M.length Mc,.int .i64 f] 60)):=(Below.refl _ _).alloc (Nat.le_refl _) _
              have HOB : Hid (∀ m,oA=some ⟨m,0,none⟩→m<w10.heap.size):=Lib.hid HO.out.bound
              have HXB : Hid (w.heap.size<w10.heap.size):=Lib.hid HX.out.lt
              replace HB:=Lib.hid (HB.out.trans (hba.mono HB.out.size))
              try replace HX:=Lib.hid (HX.out.later hba)
              try replace HO:=Lib.hid (HO.out.below hba)
              try replace HC:=Lib.hid (HC.out.later hba)
              try replace HK:=Lib.hid (And.intro (keep_cell hba HK.out.1) (And.intro (keep_cell hba HK.out.2.1) (keep_cell hba HK.out.2.2)))
              clear hba
              have HC:=Lib.hid hC
              clear hC
              generalize w10.alloc (.cells #[.slice TA T.length Tc,.slice MA M.length Mc,.int .i64 f] 60)=w11 at *
              generalize w10.heap.size=g16 at *
              clear HK
              obtain ⟨c0,c1,c2,cf,cz⟩:=HC.out.b3
              go_wp2_with (refine wpl_load_rowW rfl 28 (.tmp 3) rfl w.heap.size rfl 28 cs (0,0) _ HX.out Tryz.underlying28 rfl (by rw [hsz]; kernel_rfl) ?_)
              have hba : Below w11.heap.size w11 (w11.alloc (.cells #[.slice TA T.length Tc,.slice MA M.length Mc,.int .i64 f] 60)):=(Below.refl _ _).alloc (Nat.le_refl _) _
              have hca:=case_one (f:=f) (⟨HAT.out.T.later HB.out,HAT.out.M.later HB.out⟩ : CS.At (· < w11.heap.size) w11 ⟨⟨TA,Tc,T⟩,⟨MA,Mc,M⟩,f⟩)
              replace HB:=Lib.hid (HB.out.trans (hba.mono HB.out.size))
              try replace HX:=Lib.hid (HX.out.later hba)
              try replace HO:=Lib.hid (HO.out.below hba)
              try replace HC:=Lib.hid (HC.out.later hba)
              try replace HK:=Lib.hid (And.intro (keep_cell hba HK.out.1) (And.intro (keep_cell hba HK.out.2.1) (keep_cell hba HK.out.2.2)))
              clear hba
              have hc:=ch_Breaks b _ _ (HP.out.later HB.out) (fun _=>HL40.out) hca (by show (1 : Nat)≤1000000; decide)
              simp only [HCS.out] at hc
              rw [(brkL_no HKF.out)] at hc
              refine hc.mono ?_
              clear hc hca
              rintro r w12 ⟨hb,zA,zc,rfl,_⟩
              replace HB:=Lib.hid (HB.out.trans (hb.mono HB.out.size))
              try replace HX:=Lib.hid (HX.out.later hb)
              try replace HO:=Lib.hid (HO.out.below hb)
              try replace HC:=Lib.hid (HC.out.later hb)
              try replace HK:=Lib.hid (And.intro (keep_cell hb HK.out.1) (And.intro (keep_cell hb HK.out.2.1) (keep_cell hb HK.out.2.2)))
              clear hb
              rw [(show ([0] : List Int).length=1 from rfl)]
              clear c0 c1 c2 cf cz
              obtain ⟨hox,hkl0,_⟩:=HST.out.2 HKF.out
              obtain ⟨ob,oo2,hoA,_,ou⟩:=(HO.out.rd ienc_k).getv hox
              simp only at hoA
              subst hoA
              have hkl : (k : Int)<(out.length : Int):=by omega
              have hkn : decide ((out.length : Int)≤(k : Int))=false:=decide_eq_false (by omega)
              have hkm : decide (out.length≤k)=false:=decide_eq_false (by omega)
              have hw1 : IntKind.i64.wrap ((out.length : Int) - 1)=(out.length : Int) - 1:=by rw [IntKind.wrap_i64]; omega
              have hwk : IntKind.i64.wrap ((k : Int)+1)=(k : Int)+1:=by rw [IntKind.wrap_i64]; omega
              have hmx : ¬ (out.length : Int) - 1<0:=by omega
              have hmn : ¬ (out.length : Int) - 1<(k : Int):=by omega
              clear hox hkl0
              rcases HRG.out with hr1 | ⟨hr1,hr2⟩ | ⟨hr1,hr2⟩
              case' inl =>
                obtain ⟨c0,c1,c2,cf,cz⟩:=HC.out.b3
                have hsC : Blk (w12.setCell ⟨g16,2,none⟩ (.int .i64 n)) g16 60 #[.slice TA T.length Tc,.slice MA M.length Mc,.int .i64 n]:=by simpa using HC.out.set_ 2 (.int .i64 n)
                have hsX : Blk (w12.setCell ⟨g16,2,none⟩ (.int .i64 n)) w.heap.size 28 cs:=HX.out.far (p:=⟨g16,2,none⟩) (by have:=HXB.out; simp only; omega) (.int .i64 n)
                have hsO:=HO.out.other (a:=⟨g16,2,none⟩) (fun g hgA=>by have:=HOB.out g hgA; simp only; omega) (.int .i64 n)
                have hsB : Below w.heap.size w (w12.setCell ⟨g16,2,none⟩ (.int .i64 n)):=HB.out.setCell (p:=⟨g16,2,none⟩) (by have:=HXB.out; simp only; omega) (.int .i64 n)
                have HC2:=Lib.hid hsC
                have HX2:=Lib.hid hsX
                have HO2:=Lib.hid hsO
                have HB2:=Lib.hid hsB
                clear hsC hsX hsO hsB
                go_upto_if 169 with fail
                clear HC HX HO HB c0 c1 c2 cf cz
                have HC:=HC2
                have HX:=HX2
                have HO:=HO2
                have HB:=HB2
                clear HC2 HX2 HO2 HB2
                have hzz : w12.heap.size=(w12.setCell ⟨g16,2,none⟩ (.int .i64 n)).heap.size:=by simp
                try rw [hzz]
                clear hzz
                generalize w12.setCell ⟨g16,2,none⟩ (.int .i64 n)=wz at *
                go_wp2_with (refine wpl_load_rowW rfl 28 (.tmp 3) rfl w.heap.size rfl 28 cs (0,0) _ HX.out Tryz.underlying28 rfl (by rw [hsz]; kernel_rfl) ?_)
              case' inr.inl =>
                obtain ⟨c0,c1,c2,cf,cz⟩:=HC.out.b3
                have hsC : Blk (w12.setCell ⟨g16,2,none⟩ (.int .i64 n)) g16 60 #[.slice TA T.length Tc,.slice MA M.length Mc,.int .i64 n]:=by simpa using HC.out.set_ 2 (.int .i64 n)
                have hsX : Blk (w12.setCell ⟨g16,2,none⟩ (.int .i64 n)) w.heap.size 28 cs:=HX.out.far (p:=⟨g16,2,none⟩) (by have:=HXB.out; simp only; omega) (.int .i64 n)
                have hsO:=HO.out.other (a:=⟨g16,2,none⟩) (fun g hgA=>by have:=HOB.out g hgA; simp only; omega) (.int .i64 n)
                have hsB : Below w.heap.size w (w12.setCell ⟨g16,2,none⟩ (.int .i64 n)):=HB.out.setCell (p:=⟨g16,2,none⟩) (by have:=HXB.out; simp only; omega) (.int .i64 n)
                have HC2:=Lib.hid hsC
                have HX2:=Lib.hid hsX
                have HO2:=Lib.hid hsO
                have HB2:=Lib.hid hsB
                clear hsC hsX hsO hsB
                go_upto_if 169 with fail
                clear HC HX HO HB c0 c1 c2 cf cz
                have HC:=HC2
                have HX:=HX2
                have HO:=HO2
                have HB:=HB2
                clear HC2 HX2 HO2 HB2
                have hzz : w12.heap.size=(w12.setCell ⟨g16,2,none⟩ (.int .i64 n)).heap.size:=by simp
                try rw [hzz]
                clear hzz
                generalize w12.setCell ⟨g16,2,none⟩ (.int .i64 n)=wz at *
                go_wp2_with (refine wpl_load_rowW rfl 28 (.tmp 3) rfl w.heap.size rfl 28 cs (0,0) _ HX.out Tryz.underlying28 rfl (by rw [hsz]; kernel_rfl) ?_)
              case' inr.inr =>
                obtain ⟨c0,c1,c2,cf,cz⟩:=HC.out.b3
                have hcv : IntKind.i64.wrap more=more:=by rw [IntKind.wrap_i64]; omega
                have hcw : IntKind.i64.wrap (f+more)=f+more:=by rw [IntKind.wrap_i64]; omega
                have hsC : Blk (w12.setCell ⟨g16,2,none⟩ (.int .i64 (f+more))) g16 60 #[.slice TA T.length Tc,.slice MA M.length Mc,.int .i64 (f+more)]:=by simpa using HC.out.set_ 2 (.int .i64 (f+more))
                have hsX : Blk (w12.setCell ⟨g16,2,none⟩ (.int .i64 (f+more))) w.heap.size 28 cs:=HX.out.far (p:=⟨g16,2,none⟩) (by have:=HXB.out; simp only; omega) (.int .i64 (f+more))
                have hsO:=HO.out.other (a:=⟨g16,2,none⟩) (fun g hgA=>by have:=HOB.out g hgA; simp only; omega) (.int .i64 (f+more))
                have hsB : Below w.heap.size w (w12.setCell ⟨g16,2,none⟩ (.int .i64 (f+more))):=HB.out.setCell (p:=⟨g16,2,none⟩) (by have:=HXB.out; simp only; omega) (.int .i64 (f+more))
                have HC2:=Lib.hid hsC
                have HX2:=Lib.hid hsX
                have HO2:=Lib.hid hsO
                have HB2:=Lib.hid hsB
                clear hsC hsX hsO hsB
                go_upto_if 150 with fail
                clear HC HX HO HB c0 c1 c2 cf cz
                have HC:=HC2
                have HX:=HX2
                have HO:=HO2
                have HB:=HB2
                clear HC2 HX2 HO2 HB2
                have hzz : w12.heap.size=(w12.setCell ⟨g16,2,none⟩ (.int .i64 (f+more))).heap.size:=by simp
                try rw [hzz]
                clear hzz
                generalize w12.setCell ⟨g16,2,none⟩ (.int .i64 (f+more))=w13 at *
                obtain ⟨c0,c1,c2,cf,cz⟩:=HC.out.b3
                have hsC : Blk (w13.setCell ⟨g16,2,none⟩ (.int .i64 n)) g16 60 #[.slice TA T.length Tc,.slice MA M.length Mc,.int .i64 n]:=by simpa using HC.out.set_ 2 (.int .i64 n)
                have hsX : Blk (w13.setCell ⟨g16,2,none⟩ (.int .i64 n)) w.heap.size 28 cs:=HX.out.far (p:=⟨g16,2,none⟩) (by have:=HXB.out; simp only; omega) (.int .i64 n)
                have hsO:=HO.out.other (a:=⟨g16,2,none⟩) (fun g hgA=>by have:=HOB.out g hgA; simp only; omega) (.int .i64 n)
                have hsB : Below w.heap.size w (w13.setCell ⟨g16,2,none⟩ (.int .i64 n)):=HB.out.setCell (p:=⟨g16,2,none⟩) (by have:=HXB.out; simp only; omega) (.int .i64 n)
                have HC2:=Lib.hid hsC
                have HX2:=Lib.hid hsX
                have HO2:=Lib.hid hsO
                have HB2:=Lib.hid hsB
                clear hsC hsX hsO hsB
                go_upto_if 169 with fail
                clear HC HX HO HB c0 c1 c2 cf cz
                have HC:=HC2
                have HX:=HX2
                have HO:=HO2
                have HB:=HB2
                clear HC2 HX2 HO2 HB2
                have hzz : w13.heap.size=(w13.setCell ⟨g16,2,none⟩ (.int .i64 n)).heap.size:=by simp
                try rw [hzz]
                clear hzz
                generalize w13.setCell ⟨g16,2,none⟩ (.int .i64 n)=wz at *
                go_wp2_with (refine wpl_load_rowW rfl 28 (.tmp 3) rfl w.heap.size rfl 28 cs (0,0) _ HX.out Tryz.underlying28 rfl (by rw [hsz]; kernel_rfl) ?_)
              all_goals
                clear ou hkl hkn hkm hw1 hwk hmx hmn
                have hc:=un_Check b wz (HP.out.later HB.out) HL40.out
                obtain ⟨cv,hcv⟩ : ∃ x,chkU b=x:=⟨_,rfl⟩
                rw [HCS.out,hcv] at hc
                clear hcv
                refine hc.mono ?_
                clear hc
                rintro r wx ⟨rfl,hb⟩
                replace HB:=Lib.hid (HB.out.trans (hb.mono HB.out.size))
                try replace HX:=Lib.hid (HX.out.later hb)
                try replace HO:=Lib.hid (HO.out.below hb)
                try replace HC:=Lib.hid (HC.out.later hb)
                try replace HK:=Lib.hid (And.intro (keep_cell hb HK.out.1) (And.intro (keep_cell hb HK.out.2.1) (keep_cell hb HK.out.2.2)))
                clear hb
                by_cases hz : cv=0
                · have hzb : (cv != 0)=false:=by rw [hz]; rfl
                  clear hz
                  go_wp2_with fail
                  go_roundw
                  case rel=>exact ⟨k+1,i+1,by omega,by omega,by go_num,by go_num,HB,HX,HO,Lib.hid (HST.out.2 HKF.out).2.2,Lib.hid (HST.out.2 HKF.out).2.1⟩
                  case measure=>simp [intOf]; omega
                · have hzb : (cv != 0)=true:=bne_iff_ne.2 hz
                  clear hz
                  go_wp2_with fail
                  go_roundw
                  case rel=>exact ⟨k+1,i+1,by omega,by omega,by go_num,by go_num,HB,HX,HO,Lib.hid (HST.out.2 HKF.out).2.2,Lib.hid (HST.out.2 HKF.out).2.1⟩
                  case measure=>simp [intOf]; omega
    · have hlti : ¬ (i : Int)<(l.length : Int):=by omega
      have hke : k=out.length:=by
        have h1:=HD.out
        rw [List.drop_eq_nil_of_le (by omega : l.length≤i)] at h1
        have h2 : out.drop k=[]:=h1
        have h3:=congrArg List.length h2
        simp only [List.length_drop,List.length_nil] at h3
        have:=HKL.out
        omega
      have hkb : ((k : Int) == (out.length : Int))=true:=by rw [hke]; simp
      clear hke
      go_wp2_with fail
      go_ret
      exact ⟨rfl,HB.out⟩
end Go.Proofs.YtpbdjpfbhicmdaaGreatDoor
