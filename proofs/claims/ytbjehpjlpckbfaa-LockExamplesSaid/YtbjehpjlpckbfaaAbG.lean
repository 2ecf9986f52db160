/- Abstract values and states for the functions of a translated program, and preconditions over them: the library's sort on a box. What is proved holds for every program, without conditions. -/
import Derived.Test.YtbjehpjlpckbfaaAbF
import Derived.Shelf.SlMaps.Clone
import Derived.Shelf.SlIterI.Nil
set_option linter.unusedSimpArgs false
set_option linter.unusedVariables false
namespace Go.Ab
open Go.RowKit Go.Proofs Go.Maps Go.MapKept
open Go.WideElems (Fit rd rg)
section
variable {P : Program}
theorem FnC.clone {f : FuncId} (hcall : ∀ vs w, (callFunc f vs).run P w = .ok (.enter f vs) w)
   (hc : ∀ b es clock (w : World), w.heap[b]? = some (.map es clock) → Calls P f #[.map (some b)] w fun e w' => e = .returned (.map (some w.heap.size)) ∧ w' = w.alloc (.map es clock))
   {st : St} {i kk vv : Nat} {B : Box} (hB : st.box[i]? = some B) (hm : B.m = true) (hap : B.ap = false) (he : B.e = 1 + 1000 * kk + vv) (hv : vv < 1000) {K : D → St → Prop}
   (hK : K (.mref st.box.length) { st with box := st.box ++ [B] }) : FnC P f [.mref i] st K := by
 intro c
 refine ⟨hcall, fun E w vs hw hgl hsz hR => ?_⟩
 obtain ⟨v0, rfl⟩ : ∃ v0, vs = #[v0] := ⟨vs[0]'(by rw [hsz]; exact Nat.one_pos), by
   apply Array.ext
   · simpa using hsz
   · intro k h1 h2
     have hk : k < 1 := by simpa using h2
     match k, hk with
     | 0, _ => rfl⟩
 obtain ⟨b, hN, rfl⟩ := (hR 0 (by simp)).mref_inv
 obtain ⟨hib, us, hus, hobj⟩ := hw.mapcell hN hB hm he hv
 have hfm : B.fz = B.m := by
   obtain ⟨B', _, hB', _, _, _, _, ⟨h, _⟩, _⟩ := hw.box i b hib
   rw [hB] at hB'
   obtain rfl : B = B' := by simpa using hB'
   exact h
 unfold mapObj at hobj
 refine (hc b _ _ w hobj).mono ?_
 rintro e w' ⟨rfl, rfl⟩
 have hnb := hw.newboxM B us.toArray hfm hap (by simpa using Nat.le_of_eq hus.length.symm) (fun j hj => by simpa [Array.getD_eq_getD_getElem?, List.getD] using hus.get j hj)
 rw [objOf_map us hm he hv hus.length] at hnb
 exact ⟨_, _, _, _, rfl, hw.le_addι w.heap.size, hnb, .mref _ w.heap.size (.inl (by simp [Em.addι])), hw.kept_addι _ _ _, hK⟩
theorem insert_perm {H : Type} (x : Lit × DataW H) : ∀ l : List (Lit × DataW H), (DataW.insert x l).Perm (x :: l)
 | [] => .refl _
 | y :: l => by
   unfold DataW.insert
   split
   · exact .refl _
   · exact (insert_perm x l).cons y |>.trans (.swap x y l)
theorem sorted_perm {H : Type} : ∀ l : List (Lit × DataW H), (l.foldr DataW.insert []).Perm l
 | [] => .refl _
 | x :: l => (insert_perm x _).trans ((sorted_perm l).cons x)
theorem ents_keys {E : Em} {q : IntKind} {tv : Ty} {vv : Nat} (hv : kw vv = tv.size) : ∀ (l : List (tEnt q tv).den) (us : List Value), (∀ e ∈ l, 0 ≤ e.2.2) → RL E (((tEnt q tv).rows l).map .p) us →
   (entsOf 0 vv l.length us).map (fun e => (e.key, e.born)) = l.map fun e => (Value.int q e.1, e.2.2.toNat)
 | [], _, _, _ => rfl
 | (k, v, b) :: l, us, hb, hr => by
   rw [tEnt_rows] at hr
   obtain ⟨u0, us1, rfl, h0, h0o, t0⟩ := hr.cons_inv
   obtain rfl := h0.v_inv
   have hd := t0.drop (kw vv)
   rw [hv, List.drop_left' (by simp [Ty.cells_length])] at hd
   have h1 := (hd.headInt (n := b.toNat) (by simpa using natD_int (hb (k, v, b) (by simp)))).1
   have hd2 := hd.drop 1
   rw [List.drop_succ_cons, List.drop_zero, List.drop_drop] at hd2
   have ih := ents_keys hv l _ (fun e he => hb e (by simp [he])) hd2
   rw [List.length_cons]
   have e2 : (Value.int q k :: us1).drop (kw 0 + kw vv + 1) = us1.drop (tv.size + 1) := by
     rw [hv, show kw 0 + tv.size + 1 = (tv.size + 1) + 1 by simp [kw]; omega, List.drop_succ_cons]
   have e3 : (Value.int q k :: us1).drop (kw 0 + kw vv) = us1.drop tv.size := by
     rw [hv, show kw 0 + tv.size = tv.size + 1 by simp [kw]; omega, List.drop_succ_cons]
   simp only [entsOf, List.map_cons, entOf, valOf, e2, e3, List.headD_cons]
   rw [ih, h1]
structure MOK {α : Type} (l : List (Int × α × Int)) (c : Int) : Prop where
 b : ∀ e ∈ l, 0 ≤ e.2.2 ∧ e.2.2 < c
 nb : l.Pairwise fun x y => x.2.2 ≠ y.2.2
 nk : l.Pairwise fun x y => x.1 ≠ y.1
theorem HR.sortedKeys {c : Ctx} {E : Em} {st : St} {w w' : World} (hw : HR P c E st w) (hbel : Below w.heap.size w w') {t : TypeId} {v : Value} {n : Nat} {ks : List Int} (hn : ks.length = n)
   (hrow : w'.ownsRow w.heap.size t 1 v n (ks.map encZ)) :
   ∃ E', E.le E' ∧ HR P c E' st w' ∧ RD E' (.p (.sl none n (ks.map fun k => .v (.int .i64 k)))) v ∧ ∀ i b, E.ι i = some b → E'.ι i = some b ∧ w'.heap[b]? = w.heap[b]? := by
 have hb : BelowF w.heap.size w w' := ⟨hbel, fun a ha => by simp only [World.frozen?, hbel.block a.block ha]⟩
 have hw1 := hw.grown hb
 have key : ∀ G', (∀ b o u, E.G b o = some u → G' b o = some u) → (∀ b o, b < w.heap.size → G' b o = E.G b o) → GOK G' w' → E.le { E with G := G' } ∧ HR P c { E with G := G' } st w' := fun G' g1 g2 g3 => by
   have hle : E.le { E with G := G' } := ⟨g1, fun _ _ h => h, fun _ _ _ => rfl, fun _ b cap cur h => ⟨b, cap, cur, h, .inl ⟨rfl, rfl, rfl⟩⟩⟩
   refine ⟨hle, hw1.os, hw1.tape, hw1.output, hw1.size, hw1.old, hw.le.trans hle, fun b o hb' hx => ?_, g3, fun i b hi => ?_, hw1.inj, fun g b cap cur hg => ?_, hw1.ginj, hw1.apart, hw1.dead, hw1.kap⟩
   · show G' b o = _
     rw [g2 b o (Nat.lt_of_lt_of_le hb' hw.size)]; exact hw.gnew b o hb' hx
   · obtain ⟨B, us, h1, h2, h3, h4, h5, h6, h7⟩ := hw1.box i b hi
     have hlt := hw.ι_lt hi
     exact ⟨B, us, h1, h2, h3, fun j hj => ⟨(h4 j hj).1.mono hle, (h4 j hj).2⟩, h5, h6, (fun o => by show G' b o = _; rw [g2 b o hlt]; exact h7 o)⟩
   · obtain ⟨e', us, inf, h1, h2, h3, h4, h5, h6, h7, h8⟩ := hw1.grp g b cap cur hg
     have hlt := hw.γ_lt hg
     exact ⟨e', us, inf, h1, h2, h3, h4, h5, h6, h7, (fun o ho => by show G' b o = _; rw [g2 b o hlt]; exact h8 o ho)⟩
 rcases hrow.2 with ⟨rfl, rfl⟩ | ⟨g, cap, cur, rfl, hg, hgb, hcap, _, hcs, hcur⟩
 · obtain ⟨h1, h2⟩ := key E.G (fun _ _ _ h => h) (fun _ _ _ => rfl) hw1.gok
   have : ks = [] := List.eq_nil_of_length_eq_zero hn
   subst this
   exact ⟨_, h1, h2, .p _ _ (.nil _ (by simp)), fun i b hi => ⟨hi, hb.block b (hw.ι_lt hi)⟩⟩
 · have hnone : ∀ o, E.G g o = none := fun o => by
     cases hG : E.G g o with
     | none => rfl
     | some u =>
       have := (hw.gok g o u hG).1
       unfold World.cell? at this
       simp only [Array.getElem?_eq_none (Nat.le_of_not_lt (Nat.not_lt.2 hg))] at this
       cases this
   have hget : ∀ o (h : o < n), cur[o]? = some (.int .i64 (ks.getD o 0)) := fun o h => by
     have e1 : (cur.toList.take (n * 1))[o]? = (ks.map encZ)[o]? := by rw [hcur]
     rw [Nat.mul_one, List.getElem?_take, if_pos h] at e1
     have h2 : o < ks.length := by omega
     simpa [encZ, h2] using e1
   let G' : Mem := fun b o => if b = g then (if o < n then some (.int .i64 (ks.getD o 0)) else none) else E.G b o
   obtain ⟨h1, h2⟩ := key G' (fun b o u h => by
       show (if b = g then _ else E.G b o) = some u
       rw [if_neg (fun e => by subst e; rw [hnone] at h; cases h)]; exact h)
     (fun b o hlt => by
       show (if b = g then _ else E.G b o) = _
       rw [if_neg (by omega)])
     (fun b o u h => by
       have h' : (if b = g then (if o < n then some (Value.int .i64 (ks.getD o 0)) else none) else E.G b o) = some u := h
       clear h
       split at h'
       · rename_i e; subst e
         split at h'
         · rename_i ho
           simp only [Option.some.injEq] at h'
           subst h'
           refine ⟨?_, rfl⟩
           unfold World.cell?
           simp only [hgb, hget o ho]
           rfl
         · cases h'
       · exact hw1.gok b o u h')
   refine ⟨_, h1, h2, .p _ _ (.sl none n _ g 0 cap (fun o => .int .i64 (ks.getD o 0)) (by simp) hcap (fun o ho => ?_) (fun o ho => ?_)), fun i b hi => ⟨hi, hb.block b (hw.ι_lt hi)⟩⟩
   · show (if g = g then _ else _) = _
     rw [if_pos rfl, Nat.zero_add, if_pos (by simp at ho; omega)]
   · have h2 : o < ks.length := by simpa using ho
     have : (ks.map fun k => PD.v (.int .i64 k)).getD o default = .v (.int .i64 (ks.getD o 0)) := by simp [List.getD, h2]
     rw [this]; exact .v _
def SortedAt (P : Program) (f g : FuncId) (k t : TypeId) : Prop :=
 ∀ (b nn : Nat) (D0 : DataW Unit) (R : Value → Option (DataW Unit × List MemPlace)) (w : World) (bx : Nat), w.ownsMap P k R b nn D0 → Maps.size D0 ≤ maxLen → Maps.size D0 * 8 ≤ 140737488355328 →
   w.cell? ⟨bx, 0, none⟩ = some (.map (some b)) → bx < w.heap.size →
   Calls P f #[.func (.func g) #[] #[.pointer (some ⟨bx, 0, none⟩)]] w fun e w' => ∃ (v : Value) (ss : List Int), e = .returned v ∧ ss.Perm (intKeys D0) ∧
     w'.ownsRow w.heap.size t 1 v ss.length ((ss.mergeSort (fun x y => decide (x ≤ y))).map encZ) ∧ Below w.heap.size w w'
theorem FnC.sorted {f g : FuncId} {k t : TypeId} (hcall : ∀ vs w, (callFunc f vs).run P w = .ok (.enter f vs) w) (hS : SortedAt P f g k t) (hk : P.underlying k = some (.int .i64))
   {st : St} {i j vv : Nat} {B C : Box} {tv : Ty} {l : List (tEnt .i64 tv).den} {c : Int} (hC : st.box[j]? = some C) (hCf : C.fz = false) (hCc : C.cells = [.mref i])
   (hB : st.box[i]? = some B) (hm : B.m = true) (he : B.e = 1 + vv) (hv : vv < 1000) (hvv : kw vv = tv.size) (hcells : B.cells = .p (.v (.int .i64 c)) :: ((tEnt .i64 tv).rows l).map .p)
   (hl : l.length ≤ 1000000) (hok : MOK l c) (hc0 : 0 ≤ c) (hin : ∀ e ∈ l, -9223372036854775808 ≤ e.1 ∧ e.1 ≤ 9223372036854775807) {K : D → St → Prop}
   (hK : K (.p (.sl none l.length (((l.map fun e => (e.1 : Int)).mergeSort fun x y => decide (x ≤ y)).map fun k => .v (.int .i64 k)))) st) : FnC P f [.fn (.func g) [] [.ptr j 0]] st K := by
 intro cx
 refine ⟨hcall, fun E w vs hw hgl hsz hR => ?_⟩
 obtain ⟨v0, rfl⟩ : ∃ v0, vs = #[v0] := ⟨vs[0]'(by rw [hsz]; exact Nat.one_pos), by
   apply Array.ext
   · simpa using hsz
   · intro k h1 h2
     have hk : k < 1 := by simpa using h2
     match k, hk with
     | 0, _ => rfl⟩
 obtain ⟨us, ws, hv0, hus, hws, _, hT⟩ := (hR 0 (by simp)).fn_inv
 obtain rfl : us = #[] := Array.eq_empty_of_size_eq_zero (by simpa using hus)
 obtain ⟨u0, rfl⟩ : ∃ u0, ws = #[u0] := ⟨ws[0]'(by rw [hws]; exact Nat.one_pos), by
   apply Array.ext
   · simpa using hws
   · intro k h1 h2
     have hk : k < 1 := by simpa using h2
     match k, hk with
     | 0, _ => rfl⟩
 obtain ⟨bx, hNx, hu0⟩ := (hT 0 (by simp)).ptr_inv
 have hu0 : u0 = .pointer (some ⟨bx, 0, none⟩) := by simpa using hu0
 subst hu0
 obtain rfl : v0 = .func (.func g) #[] #[.pointer (some ⟨bx, 0, none⟩)] := hv0
 have hjx := hw.live hNx hC hCf
 obtain ⟨C', cs, q1, q2, q3, q4, _, q6, _⟩ := hw.box j bx hjx
 rw [hC] at q1
 obtain rfl : C = C' := by simpa using q1
 rw [objOf_cells cs (q6.1.symm.trans hCf)] at q2
 have hcl : 0 < C.cells.length := by rw [hCc]; simp
 have h0 := q4 0 hcl
 rw [hCc] at h0
 obtain ⟨b, hNb, hcs0⟩ := h0.1.mref_inv
 obtain ⟨hib, us, hus, hobj⟩ := hw.mapcell hNb hB hm (kk := 0) (vv := vv) (by rw [he]) hv
 have hcell : w.cell? ⟨bx, 0, none⟩ = some (.map (some b)) := by
   unfold World.cell?
   have : 0 < cs.size := by omega
   simp only [q2]
   rw [← hcs0]
   simp [Array.getD, this]
 rw [hcells] at hus
 have hn0 := (hus.headInt (n := c.toNat) (by simpa using natD_int hc0)).1
 have hkeys := ents_keys hvv l (us.drop 1) (fun e h => (hok.b e h).1) (by simpa using hus.drop 1)
 have hlen : us.length = 1 + l.length * (tv.size + 2) := by
   rw [hus.length, List.length_cons, List.length_map, Ty.rows_length, tEnt_size]; omega
 have hdiv : (us.length - 1) / (kw 0 + kw vv + 1) = l.length := by
   rw [hlen, hvv, show kw 0 + tv.size + 1 = tv.size + 2 by simp [kw]; omega, Nat.add_sub_cancel_left]
   exact Nat.mul_div_cancel _ (by omega)
 unfold mapObj at hobj
 rw [hn0, hdiv] at hobj
 have hel := entsOf_length 0 vv l.length (us.drop 1)
 generalize entsOf 0 vv l.length (us.drop 1) = es at hobj hkeys hel
 let R : Value → Option (DataW Unit × List MemPlace) := fun _ => some (.nil, [])
 have hke : es.map (·.key) = l.map fun e => Value.int .i64 e.1 := by
   have := congrArg (List.map Prod.fst) hkeys
   simpa [Function.comp_def] using this
 have hbe : es.map (·.born) = l.map fun e => e.2.2.toNat := by
   have := congrArg (List.map Prod.snd) hkeys
   simpa [Function.comp_def] using this
 have hkof : ∀ x ∈ es, ∃ a : Int, x.key = .int .i64 a ∧ keyOf P k x.key = some (.int .i64 a) := fun x hx => by
   have : x.key ∈ es.map (·.key) := List.mem_map_of_mem hx
   rw [hke] at this
   obtain ⟨e, he, hee⟩ := List.mem_map.1 this
   refine ⟨e.1, hee.symm, ?_⟩
   have hwf : (Lit.int .i64 e.1).wf = true := by
     have := hin e he
     simp only [Lit.wf, Bool.and_eq_true, decide_eq_true_eq]
     exact this
   rw [← hee]
   simp [keyOf, hk, mapKey, hwf]
 have hown : w.ownsMap P k R b l.length (.map ((es.map (rg P k R)).foldr DataW.insert [])) := by
   refine ⟨_, _, hobj, ⟨?_, ?_, fun x hx => ?_⟩, by simpa using Nat.le_of_eq hel, by simp⟩
   · simp only [List.size_toArray, hel]; exact Nat.le_trans hl (by decide)
   · rw [stamped_iff]
     refine ⟨fun x hx => ?_, ?_, ?_⟩
     · have : x.born ∈ es.map (·.born) := List.mem_map_of_mem (by simpa using hx)
       rw [hbe] at this
       obtain ⟨e, he, hee⟩ := List.mem_map.1 this
       have := hok.b e he
       omega
     · show (es.map (·.born)).Nodup
       rw [hbe]
       refine List.pairwise_map.2 (hok.nb.imp_of_mem fun {x y} hx hy hne e => hne ?_)
       have := hok.b x hx
       have := hok.b y hy
       omega
     · have : (es.map (·.key)).Pairwise (· ≠ ·) := by
         rw [hke]
         exact List.pairwise_map.2 (hok.nk.imp fun hne e => hne (by simpa using e))
       exact List.pairwise_map.1 this
   · obtain ⟨a, _, ha⟩ := hkof x (by simpa using hx)
     exact ⟨_, by simp only [rd, ha, R]; rfl⟩
 have hint : (intKeys (.map ((es.map (rg P k R)).foldr DataW.insert []) : DataW Unit)).Perm (l.map fun e => (e.1 : Int)) := by
   show (List.map (fun p : Lit × DataW Unit => intOf p.1) _).Perm _
   refine ((sorted_perm _).map _).trans ?_
   rw [List.map_map]
   have : es.map ((fun p => intOf p.1) ∘ rg P k R) = l.map fun e => (e.1 : Int) := by
     have h1 : ∀ x ∈ es, ((fun p : Lit × DataW Unit => intOf p.1) ∘ rg P k R) x = (match x.key with | .int _ a => a | _ => 0) := fun x hx => by
       obtain ⟨a, ha, hka⟩ := hkof x hx
       simp only [Function.comp_apply, rg, rd, hka, R]
       rw [ha]; rfl
     rw [List.map_congr_left h1]
     have := congrArg (List.map fun v => match v with | Value.int _ a => a | _ => 0) hke
     simpa [Function.comp_def] using this
   rw [this]
 have hsize : Maps.size (.map ((es.map (rg P k R)).foldr DataW.insert []) : DataW Unit) = l.length := by
   show (List.foldr DataW.insert [] _).length = _
   rw [(sorted_perm _).length_eq, List.length_map, hel]
 refine (hS b l.length _ R w bx hown (by rw [hsize]; exact Nat.le_trans hl (by decide)) (by rw [hsize]; omega) hcell (hw.ι_lt hjx)).mono ?_
 rintro e w' ⟨v, ss, rfl, hp, hrow, hbel⟩
 have hp2 := hp.trans hint
 have hsl : ss.length = l.length := by rw [hp2.length_eq, List.length_map]
 rw [hsl] at hrow
 have hms : ss.mergeSort (fun x y => decide (x ≤ y)) = (l.map fun e => (e.1 : Int)).mergeSort fun x y => decide (x ≤ y) := mergeSort_of_perm_i hp2
 rw [hms] at hrow
 obtain ⟨E', hle, hw', hrd, hkp⟩ := hw.sortedKeys hbel (by simp) hrow
 exact ⟨v, E', _, st, rfl, hle, hw', hrd, fun i b hi _ => hkp i b hi, hK⟩
end
end Go.Ab
