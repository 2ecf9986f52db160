/- Run of the program: its errors,its result the caller's own. -/
import Derived.Test.YteiolnofaebknaaMp
set_option linter.unusedSimpArgs false
set_option linter.unusedVariables false
set_option maxRecDepth 100000
set_option maxHeartbeats 8000000
namespace Go.Ab
open Go.Proofs
theorem OWD.nilT' {t:Ty} {e:TypeId} {l:List t.den} {d:DC} {bs:List BoxS} {st:StS} {y z:PD} (h:OWD t e l d bs) (hl:l=[]) (hyz:y=z) (hy:flatP y=true) {x:DC} (hx:x=.p (.sl (some true) 0 [])):OWNF (.tup [d,.p y]) bs (.tup [x,.p z]) st:=by
 subst hyz;exact h.nilT hl hy hx
theorem OWD.ogT' {t:Ty} {e:TypeId} {l m:List t.den} {d:DC} {bs:List BoxS} {st:StS} {y z:PD} (h:OWD t e l d bs) (hl:l=m) (hyz:y=z) {g:Nat} (hg:nthD st.grp g=some (m.length*t.size,e)) (hf:(t.rows l).all flatP=true) (hy:flatP y=true):OWNF (.tup [d,.p y]) bs (.tup [.og g t m,.p z]) st:=by
 subst hl hyz;exact h.ogT hg hf hy
theorem cNewE (nl:Option Bool) (l:List Int) (hs:Short 300 l) (r:Int) (hr:r=wrongM l) (hl:r≠0):FnS Try.prog 46 ([injT (.sl tI) (nl,l)]) (⟨[],[]⟩) fun x_ s_=>x_=(.tup [.p (.v (.pointer none)),.p (iv r)])∧s_=(⟨[],[]⟩):=by
 refine FnS.of (S:=[(56,_)]) (T:=[]) (U:=[]) (tbl:=[]) (n:=22) hm33 cfg (.cons (spT1.ok (a:=(.sl (.int .i64))) fun x0 h=>c30 x0.1 x0.2 h) .nil) .nil .nil .nil 0 Try.call46 Try.func46 (ac46_ok (some (0,0))) (by rw[Try.ntmps46];exact Nat.le_refl _) rfl _ _ _ (by rfl) ?_
 intro cmp ar cv tn ic ai mx an ad ml sb mn ln em gt up ap sc vw cp rp p1 p2 s1 s2 X Y hX hY r0 r1 r2 r3 r4 r5 r6 r7 r8 r9 r10 r11 r12 r13 r14 r15 r16 r17 r18 r19 r20 r21 r22 r23 r24
 generalize hg0:wrongM=g0
 cbv
 rw[show g0 (nl,l).snd=r by rw[←hg0];exact hr.symm]
 refine ⟨hs,BR.neq r0 (fun _=>?_) (fun h=>absurd hl h)⟩
 refine RET.mk ⟨[],[],?_⟩;rw[SIM_iff];cbv
 try simp[lstEq]
structure NBY (l:List Int) (A:Prop) (B:Int→Prop):Prop where
 h:(wrongM l=0∧A)∨∃ r,r=wrongM l∧r≠0∧l.length≤300∧B r
def spNewY (mF:List Int→List Int):OpsS→CallS:=fun _ _ ds st K=>match ds with
 | [x]=>(match asL tI x with
  | some l=>NBY l (frS [] [] [.tl none tI l] ⟨[],[]⟩ (.tup [.ptr 0 0,.p (iv 0)]) (linkS (mF l) 0 0 0 0 []) ds st K)
    fun r=>frS [] [] [.tl none tI l] ⟨[],[]⟩ (.tup [.p (.v (.pointer none)),.p (iv r)]) ⟨[],[]⟩ ds st K
  | none=>False)
 | _=>False
theorem cNewY:∀ ds st K,spNewY fatesM OpsS.real 46 ds st K→FnS Try.prog 46 ds st K:=fun ds st K h=>by
 unfold spNewY at h
 split at h
 ·split at h
  ·obtain ⟨h3 | ⟨r,k1,k2,k3,h3⟩⟩:=h
   ·exact frS_ok (cNew none _ h3.1) h3.2
   ·exact frS_ok (cNewE none _ (Short_iff.2 (by omega)) r k1 k2) h3
  ·exact h.elim
 ·exact h.elim
theorem rows_meet (l:List tMeet.den):(tMeet.rows l).all flatP=true:=by
 rw[List.all_eq_true]
 intro x hx
 simp only[Ty.rows,List.mem_flatMap]at hx
 obtain ⟨y,_,hx⟩:=hx
 simp only[Ty.cells,List.mem_append,List.mem_singleton]at hx
 rcases hx with (rfl | rfl | rfl | rfl | rfl | rfl) | (rfl | rfl | rfl | rfl | rfl | rfl) <;> rfl
theorem cRunO (a b:Int) (nw:Option Bool) (w:List tW.den) (nf:Option Bool) (F:List Int) (ng:Option Bool) (G:List Int) (L:List tMeet.den) (E:Int) (hL:L=runR a b w F G) (hE:E=runE a b w F G) (hwl:w.length≤200) (hFl:F.length≤300) (hGl:G.length≤300):OwnL Try.prog 23 ([injT tI a,injT tI b,injT (.sl tW) (nw,w),injT (.sl tI) (nf,F),injT (.sl tI) (ng,G)]) (tMeet) 45 (L) (shT (iv E)):=by
 refine OwnL.of fun d bs hD=>OwnS.of (S:=[(17,_),(44,_)]) (T:=[(46,_),(47,_),(48,_),(49,_)]) (U:=[]) (tbl:=[]) (n:=114) hm33 cfg (.cons (spT2.ok (a:=(.int .i64)) (b:=(.int .i64)) (pre:=fun _ _=>True) fun x0 x1 _=>c17 x0 x1) (.cons (spTF1.ok (a:=(.sl (.pair (.int .u8) (.int .u8)))) fun x h=>c44w x.1 x.2 h) .nil)) (.cons cNewY (.cons cChoT (.cons cSndT (.cons cRcvT .nil)))) .nil .nil 0 Try.call23 Try.func23 (ac23_ok (some (0,0))) (by rw[Try.ntmps23];exact Nat.le_refl _) rfl _ _ ?_
 intro cmp ar cv tn ic ai mx an ad ml sb mn ln em gt up ap sc vw cp rp p1 p2 s1 s2 X Y hX hY r0 r1 r2 r3 r4 r5 r6 r7 r8 r9 r10 r11 r12 r13 r14 r15 r16 r17 r18 r19 r20 r21 r22 r23 r24
 generalize hg0:newM=g0
 generalize hg1:List.any=g1
 generalize hg2:fatesM=g2
 cbv
 have hEe:E=if (g0 a b).2≠0 then (g0 a b).2 else if w.length>64 then 4 else if w.any badW=true then 6 else if wrongM F≠0 then wrongM F else wrongM G:=by rw[hE,←hg0];rfl
 have hLe:L=if E=0 then runP (fatesM F) (fatesM G) 0 w ((newM a b).1,(newM b a).1,(0,[]),(0,[])) else []:=by rw[hL,hE];rfl
 obtain ⟨N,hN⟩:∃ N:Int,N=w.length:=⟨_,rfl⟩
 have hlN:ic (ln tW w)=N:=by rw[r4,r12,hN]
 have hwa:g1 w badW=w.any badW:=by rw[←hg1]
 clear hE hL
 refine BR.neq r0 (fun h1=>?_) fun h1=>?_
 ·rw[if_pos h1]at hEe
  rw[hEe,if_neg h1]at hLe
  exact hD.nilT' hLe (by rw[hEe]) rfl rfl
 rw[if_neg h1]at hEe
 have hg64:∀ u:Int,u=ic (ln tW w)→u=N:=fun u h=>h.trans hlN
 refine BR.gtr r0 (fun h2=>?_) fun h2=>⟨⟨by have h2:¬ ic (ln tW w)>64:=h2;omega⟩,BR.mk (fun h3=>?_) fun h3=>?_⟩
 all_goals rw[hg64 _ rfl]at h2
 ·rw[if_pos (by omega)]at hEe
  rw[hEe,if_neg (by decide)]at hLe
  exact hD.nilT' hLe (by rw[hEe]) rfl rfl
 ·rw[if_neg (by omega),if_pos (by rw[←hwa];exact h3)]at hEe
  rw[hEe,if_neg (by decide)]at hLe
  exact hD.nilT' hLe (by rw[hEe]) rfl rfl
 rw[if_neg (by omega),if_neg (by rw[←hwa];intro h;rw[show g1 w badW=false from h3]at h;cases h)]at hEe
 have hw:w.length≤64:=by omega
 have hlw:ic (ln tW w)=w.length:=by rw[r4,r12]
 by_cases hF:¬ wrongM F=0
 ·obtain ⟨r,hr⟩:∃ r,r=wrongM F:=⟨_,rfl⟩
  rw[←hr]at hF hEe
  rw[if_pos hF]at hEe
  rw[hEe,if_neg hF]at hLe
  refine ⟨.inr ⟨r,hr,hF,hFl,?_⟩⟩
  clear hr
  cbv
  exact ⟨⟨⟨nlLe_none.2 trivial,trivial⟩,trivial⟩,BR.neq r0 (fun _=>hD.nilT' hLe (by rw[hEe]) rfl rfl) fun h=>absurd hF h⟩
 have hF:=Classical.not_not.1 hF
 rw[if_neg (fun h=>h hF)]at hEe
 refine ⟨.inl ⟨hF,?_⟩⟩
 cbv
 try simp only[nc_eq]at *
 refine ⟨⟨⟨nlLe_none.2 trivial,trivial⟩,trivial⟩,BR.nn r0 ?_⟩
 by_cases hG:¬ wrongM G=0
 ·obtain ⟨r,hr⟩:∃ r,r=wrongM G:=⟨_,rfl⟩
  rw[←hr]at hG hEe
  rw[hEe,if_neg hG]at hLe
  refine ⟨.inr ⟨r,hr,hG,hGl,?_⟩⟩
  clear hr
  cbv
  exact ⟨⟨⟨nlLe_none.2 trivial,trivial⟩,trivial⟩,BR.neq r0 (fun _=>hD.nilT' hLe (by rw[hEe]) rfl rfl) fun h=>absurd hG h⟩
 have hG:=Classical.not_not.1 hG
 rw[hG]at hEe
 rw[hEe,if_pos rfl]at hLe
 refine ⟨.inl ⟨hG,?_⟩⟩
 cbv
 try simp only[nc_eq]at *
 refine ⟨⟨⟨nlLe_none.2 trivial,trivial⟩,trivial⟩,BR.nn r0 ⟨LAYOK.mk (by kernel_rfl),?_⟩⟩
 rw[hg0]at hLe
 refine LOOP.ind (σ:=Int×(Int×Int×Int)×(SD×SD)×(Int×Int×Nat×Nat×List PT×List PT)×(Int×Int×Nat×Nat×List PT×List PT)×List tMeet.den)
  (fun (t,_,_,_,_,out)=>[(18,.ptr 0 0),(19,.og 0 tMeet out),(70,.tl nw tW w),(71,.p (iv (ic (ln tW w)))),(72,.p (iv t))])
  (fun (t,(tt,wx,wy),(x,y),(na,ua,Na,la,qa,_),(nb,ub,Nb,lb,qb,_),out)=>stRG x y tt wx wy (g2 F) na ua Na la qa (g2 G) nb ub Nb lb qb [(ml (ln tMeet out) 12,45)])
  (fun (t,_)=>(w.length - t).toNat)
  (fun (t,_,(x,y),(na,ua,Na,la,qa,za),(nb,ub,Nb,lb,qb,zb),out)=>0≤t∧t≤w.length∧LK t t na ua Na la qa za∧LK t t nb ub Nb lb qb zb∧out.length=t.toNat∧out ++ runP (fatesM F) (fatesM G) t (w.drop t.toNat) (x,y,(ua,za),(ub,zb))=L)
  (0,(0,0,0),((g0 a b).1,(g0 b a).1),(0,0,0,0,[],[]),(0,0,0,0,[],[]),[]) ?_ (.inr ⟨[some 8,some 1,some 2,some 3,some 4,some 5,some 6],[none],?_⟩) ?_
 ·have hz:LK 0 0 0 0 0 0 [] []:=⟨.zero _,rfl,by simp,by simp,by omega,by omega,by omega,by omega⟩
  exact ⟨by omega,by show (0:Int)≤_;omega,hz,hz,rfl,by rw[hLe];rfl⟩
 ·rw[SIM_iff];cbv
  simp[nlLe_self]
 intro ⟨t,⟨tt,wx,wy⟩,⟨x,y⟩,⟨na,ua,Na,la,qa,za⟩,⟨nb,ub,Nb,lb,qb,zb⟩,out⟩ hI X' hX
 dsimp only at hI
 cbv
 simp only[nc_eq]at *
 obtain ⟨hI1,hI2,hLa,hLb,hI5,hI6⟩:=hI
 obtain ⟨w1,hw1⟩:∃ v,v=p1 (.int .u8) (.int .u8) (gt tW w t):=⟨_,rfl⟩
 obtain ⟨w2,hw3⟩:∃ v,v=p2 (.int .u8) (.int .u8) (gt tW w t):=⟨_,rfl⟩
 rw[←hw1,←hw3]
 have hlw:ic (ln tW w)=w.length:=by rw[r4,r12]
 have hFF:∀ i,-1≤gtR tI (g2 F) i∧gtR tI (g2 F) i≤8:=by rw[←hg2];exact fates_b hF
 have hGG:∀ i,-1≤gtR tI (g2 G) i∧gtR tI (g2 G) i≤8:=by rw[←hg2];exact fates_b hG
 have ht1:0≤t→t<w.length→ar .add .i64 t 1=t+1:=fun _ _=>by rw[r1];exact wrap64 (n:=t+1) (by omega) (by omega)
 refine BR.lss r0 (fun htw=>?_) (fun htw=>?_)
 ·rw[hlw]at htw
  refine ⟨by rw[hlw];exact ⟨hI1,htw⟩,by rw[hlw];exact ⟨hI1,htw⟩,?_⟩
  refine LOOP.ind (σ:=Nat) (fun j=>[(18,.ptr 0 0),(19,.og 0 tMeet out),(20,.p (iv t)),(21,.ptr 7 0),(70,.tl nw tW w),(71,.p (iv (ic (ln tW w)))),(72,.p (iv t)),(77,.p (iv (nI j)))])
   (fun j=>match j with
    | 0=>stRW x y tt tt wx wy (g2 F) na ua Na la qa (g2 G) nb ub Nb lb qb w1 w2 [(ml (ln tMeet out) 12,45)]
    | 1=>stRW x y t tt w1 wy (g2 F) na ua Na la qa (g2 G) nb ub Nb lb qb w1 w2 [(ml (ln tMeet out) 12,45)]
    | _=>stRW x y t t w1 w2 (g2 F) na ua Na la qa (g2 G) nb ub Nb lb qb w1 w2 [(ml (ln tMeet out) 12,45)]) (fun j=>2 - j) (fun j=>j≤2) 0 (by omega) (.inl ⟨rfl,rfl⟩) ?_
  intro j hj X1 hX1
  have h00:ar .add .i64 0 1=1:=by rw[r1];rfl
  have h01:ar .add .i64 1 1=2:=by rw[r1];rfl
  have h02:ar .add .i64 2 1=3:=by rw[r1];rfl
  rcases j with _ | _ | _ | j
  ·cbv
   repeat' (first | exact True.intro | refine And.intro ?_ ?_ | exact INB.lit r4 (by decide) | refine CASE.no (by decide) | (refine CASE.yes ?_) | refine BR.ltT r0 (by decide) ?_ | refine BR.ltF r0 (by decide) ?_)
   rw[h00]
   exact NEXT.mk (hX1 1 _ _ (by decide) (by decide) (.inl ⟨rfl,rfl⟩))
  ·cbv
   repeat' (first | exact True.intro | refine And.intro ?_ ?_ | exact INB.lit r4 (by decide) | refine CASE.no (by decide) | (refine CASE.yes ?_) | refine BR.ltT r0 (by decide) ?_ | refine BR.ltF r0 (by decide) ?_)
   rw[h01]
   exact NEXT.mk (hX1 2 _ _ (by decide) (by decide) (.inl ⟨rfl,rfl⟩))
  ·cbv
   repeat' (first | exact True.intro | refine And.intro ?_ ?_ | exact INB.lit r4 (by decide) | refine CASE.no (by decide) | (refine CASE.yes ?_) | refine BR.ltT r0 (by decide) ?_ | refine BR.ltF r0 (by decide) ?_)
   obtain ⟨x1,hx1⟩:∃ z,z=(chooseM x w1).1:=⟨_,rfl⟩
   obtain ⟨y1,hy1⟩:∃ z,z=(chooseM y w2).1:=⟨_,rfl⟩
   refine LOOP.ind (σ:=Nat×(SD×SD)×(Int×Int×Nat×Nat×List PT×List PT)×(Int×Int×Nat×Nat×List PT×List PT))
    (fun (j,_)=>[(18,.ptr 0 0),(19,.og 0 tMeet out),(70,.tl nw tW w),(71,.p (iv (ic (ln tW w)))),(72,.p (iv t)),(91,.agg [.fn (.func 47) [] [],.fn (.func 48) [] [],.fn (.func 49) [] []]),(92,.p (iv (nI j)))])
    (fun (_,(x,y),(na,ua,Na,la,qa,_),(nb,ub,Nb,lb,qb,_))=>stRG x y t w1 w2 (g2 F) na ua Na la qa (g2 G) nb ub Nb lb qb [(ml (ln tMeet out) 12,45)])
    (fun (j,_)=>3 - j)
    (fun (j,(x',y'),(na',ua',Na',la',qa',za'),(nb',ub',Nb',lb',qb',zb'))=>match j with
     | 0=>x'=x∧y'=y∧LK t t na' ua' Na' la' qa' za'∧LK t t nb' ub' Nb' lb' qb' zb'∧ua'=ua∧za'=za∧ub'=ub∧zb'=zb
     | 1=>x'=x1∧y'=y1∧LK t t na' ua' Na' la' qa' za'∧LK t t nb' ub' Nb' lb' qb' zb'∧ua'=ua∧za'=za∧ub'=ub∧zb'=zb
     | 2=>x'=x1∧y'=y1∧LK (t+1) t na' ua' Na' la' qa' za'∧LK (t+1) t nb' ub' Nb' lb' qb' zb'∧ua'=(sayP x1 (g2 F) t (ua,za)).1∧za'=(sayP x1 (g2 F) t (ua,za)).2∧ub'=(sayP y1 (g2 G) t (ub,zb)).1∧zb'=(sayP y1 (g2 G) t (ub,zb)).2
     | 3=>LK (t+1) (t+1) na' ua' Na' la' qa' za'∧LK (t+1) (t+1) nb' ub' Nb' lb' qb' zb'∧(x',y',(ua',za'),(ub',zb'))=cycP (g2 F) (g2 G) t (w1,w2) (x,y,(ua,za),(ub,zb))
     | _=>False)
    (0,(x,y),(na,ua,Na,la,qa,za),(nb,ub,Nb,lb,qb,zb)) ⟨rfl,rfl,hLa,hLb,rfl,rfl,rfl,rfl⟩ (.inr ⟨[some 0,some 1,some 2,some 3,some 4,some 5,some 6],[some 0],?_⟩) ?_
   ·rw[SIM_iff];cbv
    exact ⟨⟨nlLe_self.2 trivial,trivial⟩,trivial⟩
   intro ⟨j2,⟨x',y'⟩,⟨na',ua',Na',la',qa',za'⟩,⟨nb',ub',Nb',lb',qb',zb'⟩⟩ hJ X2 hX2
   rcases j2 with _ | _ | _ | _ | j2
   ·dsimp only at hJ
    obtain ⟨e1,e2,hA,hB,e3,e4,e5,e6⟩:=hJ
    cbv
    repeat' (first | exact True.intro | refine And.intro ?_ ?_ | exact INB.lit r4 (by decide) | refine CASE.no (by decide) | (refine CASE.yes ?_) | refine BR.ltT r0 (by decide) ?_ | refine BR.ltF r0 (by decide) ?_)
    refine CHO.mk fun x2 hx2=>?_
    cbv
    repeat' (first | exact True.intro | refine And.intro ?_ ?_ | exact INB.lit r4 (by decide) | refine CASE.no (by decide) | (refine CASE.yes ?_) | refine BR.ltT r0 (by decide) ?_ | refine BR.ltF r0 (by decide) ?_)
    refine CHO.mk fun y2 hy2=>?_
    cbv
    rw[h00]
    have hx2':x2=x1:=by rw[hx1,←e1];exact hx2
    have hy2':y2=y1:=by rw[hy1,←e2];exact hy2
    exact NEXT.mk (hX2 (1,(x2,y2),(na',ua',Na',la',qa',za'),(nb',ub',Nb',lb',qb',zb')) _ _ ⟨hx2',hy2',hA,hB,e3,e4,e5,e6⟩ (by show 3 - 1<3 - 0;omega) (.inl ⟨rfl,rfl⟩))
   ·dsimp only at hJ
    obtain ⟨e1,e2,hA,hB,e3,e4,e5,e6⟩:=hJ
    cbv
    repeat' (first | exact True.intro | refine And.intro ?_ ?_ | exact INB.lit r4 (by decide) | refine CASE.no (by decide) | (refine CASE.yes ?_) | refine BR.ltT r0 (by decide) ?_ | refine BR.ltF r0 (by decide) ?_)
    refine SND.mk (hA.sendk (by omega) hFF) fun na2 ua2 Na2 la2 qa2 h2=>?_
    obtain ⟨k1,k2⟩:=hA.send (x:=x') hI1 (by omega) h2
    cbv
    repeat' (first | exact True.intro | refine And.intro ?_ ?_ | exact INB.lit r4 (by decide) | refine CASE.no (by decide) | (refine CASE.yes ?_) | refine BR.ltT r0 (by decide) ?_ | refine BR.ltF r0 (by decide) ?_)
    refine SND.mk (hB.sendk (by omega) hGG) fun nb2 ub2 Nb2 lb2 qb2 h3=>?_
    obtain ⟨k3,k4⟩:=hB.send (x:=y') hI1 (by omega) h3
    cbv
    rw[h01]
    obtain ⟨za2,hza2⟩:∃ z,z=(sayP x' (g2 F) t (ua',za')).2:=⟨_,rfl⟩
    obtain ⟨zb2,hzb2⟩:∃ z,z=(sayP y' (g2 G) t (ub',zb')).2:=⟨_,rfl⟩
    rw[←hza2]at k2
    rw[←hzb2]at k4
    refine NEXT.mk (hX2 (2,(x',y'),(na2,ua2,Na2,la2,qa2,za2),(nb2,ub2,Nb2,lb2,qb2,zb2)) _ _ ?_ (by show 3 - 2<3 - 1;omega) (.inr ⟨[some 0,some 1,some 2,some 7,some 4,some 5,some 8],[some 0],?_⟩))
    ·dsimp only
     have q1:ua2=(sayP x1 (g2 F) t (ua,za)).1:=by rw[k1,e1,e3,e4]
     have q2:za2=(sayP x1 (g2 F) t (ua,za)).2:=by rw[hza2,e1,e3,e4]
     have q3:ub2=(sayP y1 (g2 G) t (ub,zb)).1:=by rw[k3,e2,e5,e6]
     have q4:zb2=(sayP y1 (g2 G) t (ub,zb)).2:=by rw[hzb2,e2,e5,e6]
     refine ⟨e1,e2,?_,?_,q1,q2,q3,q4⟩
     ·exact k2
     ·exact k4
    ·rw[SIM_iff];cbv
     repeat' (first | exact True.intro | apply And.intro | rfl | exact nlLe_self.2 trivial)
   ·dsimp only at hJ
    obtain ⟨e1,e2,hA,hB,e3,e4,e5,e6⟩:=hJ
    obtain ⟨b1,b2,b3,b4⟩:=hB.hear hI1 (by omega)
    obtain ⟨a1,a2,a3,a4⟩:=hA.hear hI1 (by omega)
    cbv
    repeat' (first | exact True.intro | refine And.intro ?_ ?_ | exact INB.lit r4 (by decide) | refine CASE.no (by decide) | (refine CASE.yes ?_) | refine BR.ltT r0 (by decide) ?_ | refine BR.ltF r0 (by decide) ?_)
    refine RCV.mk b1 b3 fun x2 n2 q2 o2 hn2 hq2 ho2 hx2=>?_
    cbv
    repeat' (first | exact True.intro | refine And.intro ?_ ?_ | exact INB.lit r4 (by decide) | refine CASE.no (by decide) | (refine CASE.yes ?_) | refine BR.ltT r0 (by decide) ?_ | refine BR.ltF r0 (by decide) ?_)
    refine RCV.mk a1 a3 fun y2 n3 q3 o3 hn3 hq3 ho3 hy2=>?_
    cbv
    rw[h02]
    refine NEXT.mk (hX2 (3,(x2,y2),(t,ua',Na',n3,q3,za'.dropWhile (dueT t)),(t,ub',Nb',n2,q2,zb'.dropWhile (dueT t))) _ _ ?_ (by show 3 - 3<3 - 2;omega) (.inl ⟨rfl,rfl⟩))
    dsimp only
    refine ⟨by rw[hn3,hq3];exact a4,by rw[hn2,hq2];exact b4,?_⟩
    have hx3:x2=recvM x' (hearO t lb' qb'):=by rw[←ho2];exact hx2
    have hy3:y2=recvM y' (hearO t la' qa'):=by rw[←ho3];exact hy2
    rw[b2]at hx3
    rw[a2]at hy3
    unfold cycP
    dsimp only
    rw[←hx1,←hy1,hx3,hy3,e1,e2,e3,e4,e5,e6]
   ·dsimp only at hJ
    obtain ⟨hA,hB,hC⟩:=hJ
    cbv
    repeat' (first | exact True.intro | refine And.intro ?_ ?_ | exact INB.lit r4 (by decide) | refine CASE.no (by decide) | (refine CASE.yes ?_) | refine BR.ltT r0 (by decide) ?_ | refine BR.ltF r0 (by decide) ?_)
    ·exact EQN.mk rfl
    ·rw[LIM_iff,r8,r12]
     simp only[List.length_cons,List.length_nil]
     omega
    ·rw[ht1 hI1 htw]
     refine NEXT.mk (hX (t+1,(t,w1,w2),(x',y'),(na',ua',Na',la',qa',za'),(nb',ub',Nb',lb',qb',zb'),ap tMeet out [(x',y')]) _ _ ?_ ?_ (.inl ⟨rfl,rfl⟩))
     ·dsimp only
      rw[r16]
      refine ⟨by omega,by omega,hA,hB,?_,?_⟩
      ·simp only[List.length_append,List.length_cons,List.length_nil];omega
      ·rw[←hI6,gtR_drop (t:=tW) hI1 htw,runP]
       have hww:gtR tW w t=(w1,w2):=by rw[hw1,hw3,r14,r21,r22]
       rw[hww,hg2,←hC,List.append_assoc]
       rfl
     ·have htw':t<(w.length:Int):=htw
      show ((w.length:Int) - (t+1)).toNat<((w.length:Int) - t).toNat
      omega
   ·exact hJ.elim
  ·omega
 ·rw[hlw]at htw
  rw[List.drop_eq_nil_of_le (by omega),runP,List.append_nil]at hI6
  exact hD.ogT' hI6.symm (by rw[hEe]) (by simp only[nthD];rw[r12,r9];rfl) (rows_meet _) rfl
end Go.Ab
