/- The statement: for every input the law returns true, and each argument reads as before; the tables that the code names are as the program lays them. -/
import Derived.Test.YtfnmlffpnmmcdaaGreatDoorMq1
import Derived.ProofKit
import Derived.OpenShut
import Derived.ShutString
import Derived.ChangeOld
import Derived.Deep.Slices
import Derived.Test.YtfnmlffpnmmcdaaGreatDoorMq4
import Derived.Test.YtfnmlffpnmmcdaaGreatDoorRows
import Derived.Lib.LaidU8
import Derived.LaidMore
import Derived.LaidHandle
import Derived.MakeChecks
import Derived.Test.YtfnmlffpnmmcdaaGreatDoorMq12
import Derived.Test.YtfnmlffpnmmcdaaGreatDoorCards
import Derived.Test.YtfnmlffpnmmcdaaGreatDoorTie
import Derived.SevenTiedAt
import Derived.OpenVars
namespace Go.Proofs.YtfnmlffpnmmcdaaGreatDoor
set_option maxRecDepth 100000
open Go.ChangeShapes Go.WideShapes Go.ChangeAt Go.RowKit
theorem own : ownKnob Tryz.prog.godebug = none:=by kernel_rfl
theorem laidOut : laidOutB Tryz.prog = true:=by kernel_rfl
section
variable {H : Type} {enc : TypeId × Value → H} {P : Program} {W : World}
theorem add_none (b off k : Nat) : (⟨b,off,none⟩ : Addr).add k = ⟨b,off + k,none⟩:=by unfold Addr.add; split <;> simp_all
theorem open_nums {t e : TypeId} {k : IntKind} {base : Nat} {v : Value} {d : DataW H} {p : List MemPlace} (ht : P.underlying t = some (.slice e)) (he : P.underlying e = some (.int k)) (hc : P.cellsOf e = 1)
    (hv : Value.okWide P W .any base t v) (h : DataW.Trod enc P W 0 (fun _ => true) true t v d p) :
    ∃ (A : Option Addr) (cap : Nat) (xs : List Int),v = .slice A xs.length cap ∧ Rd W W.heap.size 1 A xs.length (fun j => .int k (PP.at_ xs j)) ∧ xs.length ≤ cap ∧ cap ≤ maxLen ∧ ∀ n ∈ xs,(Lit.int k n).wf = true:=by
 obtain ⟨a,len,cap,rfl⟩:=okWide_slice ht hv;obtain ⟨fuel,hf⟩:=h;rcases open_ints ht he hc hf with ⟨hcs,_⟩ | ⟨x,l,c,zs,hcs,_,hl,hm,hz,_,hcell,hwz⟩
 ·simp [Value.cells] at hcs
  obtain ⟨rfl,rfl,rfl⟩:=hcs;exact ⟨none,0,[],rfl,fun h => absurd h (by simp),Nat.le_refl _,Nat.zero_le _,by simp⟩
 ·simp [Value.cells] at hcs
  obtain ⟨rfl,rfl,rfl⟩:=hcs;have hz' : zs.length = cap:=by simpa using hz
  have hlen : (zs.take len).length = len:=by simp; omega
  refine ⟨some x,cap,zs.take len,by rw [hlen],?_,by omega,hm,fun n hn => hwz n (List.mem_of_mem_take hn)⟩;rw [hlen];intro h0;obtain ⟨b,off,spot⟩:=x;have hc0:=hcell 0 (by omega);have hspot : spot = none:=by simpa [Addr.add] using World.cell?_spot hc0
  subst hspot;have hb:=World.block_lt_of_cell? W _ hc0;rw [add_none] at hb;refine ⟨b,off,rfl,hb,fun j hj => ?_⟩;have hj':=hcell j (by omega);rw [add_none] at hj';rw [hj'];have : PP.at_ (zs.take len) j = zs.getD j 0:=by
   unfold PP.at_;rw [List.getElem?_take,if_pos (by omega),List.getD_eq_getElem?_getD]
  show some (Value.int k (zs.getD j 0)) = some (Value.int k (PP.at_ (zs.take len) j))
  rw [this]
end
theorem at_take {cs : List Value} {k : Nat} {v : Value} (h : (cs.drop k).take 1 = [v]) : cs[k]? = some v:=by
 have:=congrArg (·[0]?) h;simpa [List.getElem?_take,List.getElem?_drop] using this
theorem str_of {s : ByteArray} {l : List UInt8} (h : s.data.toList = l) : s = ⟨l.toArray⟩:=by
 apply ByteArray.ext
 show s.data = l.toArray
 rw [← h,Array.toArray_toList]
theorem kw_of_reads {W : World} (h : Lib.VarReads Tryz.prog W "loop.example/feedbridge/impl.kindWords" Rows.laid_loop_example_feedbridge_impl_kindWords) : KwTab W:=by
 obtain ⟨g,t,cs,fuel,p,hg,ht,hv,hd⟩:=h;have hg' : Tryz.prog.globalNamed "loop.example/feedbridge/impl.kindWords" = some 0:=by kernel_rfl
 obtain rfl:=Option.some.inj (hg'.symm.trans hg);have ht' : (Tryz.prog.globals[0]?).map (·.type) = some 136:=by kernel_rfl
 obtain rfl:=Option.some.inj (ht'.symm.trans ht);have hcs : Tryz.prog.cellsOf 9 = 1:=by kernel_rfl
 intro k hk;have h1:=World.var?_cell hg hv k;rw [h1,← Array.getElem?_toList];obtain ⟨f',d,q,hdk,hk2⟩:=Lib.array_elem Tryz.underlying136 hd k hk;rw [hcs,Nat.mul_one] at hk2;obtain ⟨s,hs,hx,_⟩:=DataW.trod_string Tryz.underlying9 hk2;rw [at_take hs];injection hx with hx _
 subst hx;rcases (by omega : k = 0 ∨ k = 1 ∨ k = 2 ∨ k = 3 ∨ k = 4 ∨ k = 5) with rfl | rfl | rfl | rfl | rfl | rfl
 all_goals
  simp at hdk;rw [str_of hdk.symm];rfl
theorem es_elem {W : World} {cs : List Value} {fuel : Nat} {p : List MemPlace} {c : Int} {l : List UInt8} (h : DataW.trod (fun _ => ()) Tryz.prog W 0 (fun _ => true) false fuel 180 cs = some (.agg [.lit (.int .u8 c),.lit (.string l)],p)) :
    cs[0]? = some (Value.int .u8 c) ∧ cs[1]? = some (Value.string ⟨l.toArray⟩):=by
 obtain ⟨xs,n,rfl,hx,hl,hxl,hall⟩:=DataW.trod_struct Tryz.underlying180 h;have hxs : xs.map (·.1) = [.lit (.int .u8 c),.lit (.string l)]:=by
  have:=congrArg Prod.fst hx;simpa using this.symm
 obtain ⟨b0,b1,rfl⟩ : ∃ b0 b1,xs = [b0,b1]:=by
  match xs,hxs with
  | [a,b],_ => exact ⟨a,b,rfl⟩
  | [],h => simp at h
  | [_],h => simp at h
  | _ :: _ :: _ :: _,h => simp at h
 have c5 : Tryz.prog.cellsOf 5 = 1:=by kernel_rfl
 have c9 : Tryz.prog.cellsOf 9 = 1:=by kernel_rfl
 have h0 : DataW.trod (fun _ => ()) Tryz.prog W 0 (fun _ => true) false n 5 ((cs.drop 0).take (Tryz.prog.cellsOf 5)) = some b0:=hall 0 _ rfl;have h1 : DataW.trod (fun _ => ()) Tryz.prog W 0 (fun _ => true) false n 9 ((cs.drop 1).take (Tryz.prog.cellsOf 9)) = some b1:=hall 1 _ rfl;rw [c5] at h0;rw [c9] at h1;obtain ⟨z,hz,hb0,_⟩:=DataW.trod_int Tryz.underlying5 h0;obtain ⟨s,hs,hb1,_⟩:=DataW.trod_string Tryz.underlying9 h1;subst hb0 hb1;simp at hxs;obtain ⟨rfl,hs2⟩:=hxs;exact ⟨at_take hz,by rw [at_take hs,str_of hs2]⟩
theorem es_of_reads {W : World} (h : Lib.VarReads Tryz.prog W "loop.example/feedbridge/impl.escapes" Rows.laid_loop_example_feedbridge_impl_escapes) : EsTab W:=by
 obtain ⟨g,t,cs,fuel,p,hg,ht,hv,hd⟩:=h;have hg' : Tryz.prog.globalNamed "loop.example/feedbridge/impl.escapes" = some 4:=by kernel_rfl
 obtain rfl:=Option.some.inj (hg'.symm.trans hg);have ht' : (Tryz.prog.globals[4]?).map (·.type) = some 181:=by kernel_rfl
 obtain rfl:=Option.some.inj (ht'.symm.trans ht);have hcs : Tryz.prog.cellsOf 180 = 2:=by kernel_rfl
 have hel : ∀ i,i < 4 → W.cell? ⟨4,i * 2,none⟩ = some (esC (i * 2)) ∧ W.cell? ⟨4,i * 2 + 1,none⟩ = some (esC (i * 2 + 1)):=by
  intro i hi;have h1:=World.var?_cell hg hv (i * 2);have h2:=World.var?_cell hg hv (i * 2 + 1);rw [h1,h2,← Array.getElem?_toList,← Array.getElem?_toList];obtain ⟨f',d,q,hdk,hk2⟩:=Lib.array_elem Tryz.underlying181 hd i hi;rw [hcs] at hk2;rcases (by omega : i = 0 ∨ i = 1 ∨ i = 2 ∨ i = 3) with rfl | rfl | rfl | rfl
  all_goals
   simp at hdk;subst hdk;obtain ⟨e1,e2⟩:=es_elem hk2;rw [List.getElem?_take,if_pos (by omega),List.getElem?_drop] at e1 e2;exact ⟨e1,e2⟩
 intro j hj;rcases (by omega : j = 0 ∨ j = 1 ∨ j = 2 ∨ j = 3 ∨ j = 4 ∨ j = 5 ∨ j = 6 ∨ j = 7) with rfl | rfl | rfl | rfl | rfl | rfl | rfl | rfl
 ·exact (hel 0 (by omega)).1
 ·exact (hel 0 (by omega)).2
 ·exact (hel 1 (by omega)).1
 ·exact (hel 1 (by omega)).2
 ·exact (hel 2 (by omega)).1
 ·exact (hel 2 (by omega)).2
 ·exact (hel 3 (by omega)).1
 ·exact (hel 3 (by omega)).2
def laidTabs : List (String × DataW Unit):=Rows.fnExactBridgeLineRow.laid
theorem tabs_of_laid {W : World} (h : laidMetH Tryz.prog laidTabs W) : KwTab W ∧ EsTab W:=by
 rw [MakeChecks.laidMetH_plain _ _ _ (by kernel_rfl)] at h;have e : laidTabs = [("loop.example/feedbridge/impl.kindWords",Rows.laid_loop_example_feedbridge_impl_kindWords),("loop.example/feedbridge/impl.escapes",Rows.laid_loop_example_feedbridge_impl_escapes)]:=by kernel_rfl
 rw [e] at h;exact ⟨kw_of_reads (Lib.laidMet.reads h (by simp)),es_of_reads (Lib.laidMet.reads h (by simp))⟩
theorem door_met (os : Os) (args : Array Value) : laidMetH Tryz.prog laidTabs ((World.doorLaid Tryz.prog 400 os).forCall (fun _ _ => 0) ⟨#[],args,[]⟩).memory :=
 laidMetH_of_parts3 (fuel:=8) (laidMet_of_run' 8 (by kernel_rfl) (by kernel_rfl)) (by kernel_rfl) (by kernel_rfl)
end Go.Proofs.YtfnmlffpnmmcdaaGreatDoor
namespace Go.Proofs.YtfnmlffpnmmcdaaGreatDoor
set_option maxRecDepth 100000
open Go.ChangeShapes Go.WideShapes Go.ChangeAt Go.RowKit
open Go.ChangeMaps (open_string shut_string)
set_option maxRecDepth 100000 in
theorem FnBridgeLines_lifted (os : Os) (started : os.Started) (H : Type) (enc : TypeId × Value → H) :
    ReturnsInHanded {} Tryz.checked os 6 .any (fun w args => (Rows.fnBridgeLinesSpec.pre enc Tryz.prog Tryz.f6 [] false w args ∧ laidMetH Tryz.prog Rows.fnBridgeLinesRow.laid w) ∧ sizedMet enc Tryz.prog Tryz.f6 (OpenSpec.ofChange Rows.fnBridgeLinesSpec) false w args) (Rows.fnBridgeLinesSpec.post enc Tryz.prog Tryz.f6 false true false false):=by
 refine returnsInHanded_of_change_and (C:=Tryz.checked) (X:=fun w _ => laidMetH Tryz.prog Rows.fnBridgeLinesRow.laid w) (fun _ _ _ hh h => h.of_heap hh) own started (by kernel_rfl) Tryz.func6
  (ChangeSpec.witness_shaped (enc:=enc) (C:=Tryz.checked) (os:=os) (X:=fun w _ => laidMetH Tryz.prog Rows.fnBridgeLinesRow.laid w) false (World.doorLaid Tryz.prog 400 os) #[.slice none 0 0] 8 rfl (World.shaped_of_RefB (by kernel_rfl) (by kernel_rfl)) (by kernel_rfl) (by kernel_rfl) (by kernel_rfl) (door_met os _)) ?_
 intro W base args ds gs before hval0 hW _ _ hL _;have hval : ∀ (j : Nat) t v,Tryz.f6.params[j]? = some t → args[j]? = some v → Value.okWide Tryz.prog W .any base t v:=hval0;have hW':=hW;obtain ⟨p,q,hA0,hV,rfl,hfz,hnd⟩:=hW;have hA : DataW.TrodAll enc Tryz.prog W 0 (fun _ => true) true Tryz.f6.params.toList args.toList ds p:=hA0;rw [Tryz.params6] at hA hval;obtain ⟨v0,vs0,d0,ds0,p0,q0,hargs,rfl,rfl,h0,r0⟩:=trodAll_cons hA;obtain ⟨rfl,rfl,rfl⟩:=trodAll_nil r0;obtain rfl : args = #[v0]:=by cases args; simp_all
 have hV2 : DataW.TrodVars enc Tryz.prog W (fun _ => true) ["loop.example/feedbridge/impl.escapes","loop.example/feedbridge/impl.kindWords"] gs q:=hV;obtain ⟨_,_,_,_,z0,_,_,_,_,_,z1,_,rfl,_⟩:=trodVars_two hV2;have k0:=h0;have lt0 : ∀ x ∈ p0,x.block < W.heap.size:=by obtain ⟨m,hm⟩:=k0; exact DataW.trod_lt m _ _ _ hm
 obtain ⟨A0,cap0,xs0,rfl,rd0,lc0,cm0,wf0⟩:=open_nums Tryz.underlying40 Tryz.underlying5 (by kernel_rfl) (hval 0 40 v0 rfl rfl) h0;clear hA0 hval0;refine (FnBridgeLines_walk A0 cap0 xs0 W rd0 lc0 cm0 wf0 (tabs_of_laid hL).1 (tabs_of_laid hL).2).mono fun e W' ⟨he,bel⟩ => ?_
 subst he;exact ⟨_,rfl,_,_,_,[],_,q,hW',trodAll_mk1 (shut_bool Tryz.underlying4 _),trodAll_cons_mk (Below.trod laidOut (by kernel_rfl) (of_decide_eq_true (by kernel_rfl)) k0 bel lt0) trodAll_mk0,Below.trodVars laidOut bel (by kernel_rfl) hV2,bel.frame _,fun h => by cases h⟩
theorem FnBridgeLines_row : Rows.FnBridgeLinesSaid :=
 OpenClaim.holds_of_wide 6 Tryz.f6 rfl rfl rfl rfl rfl rfl rfl ⟨rfl,rfl,rfl,rfl,rfl⟩ rfl rfl rfl rfl rfl (by kernel_rfl) Tryz.func6 (by kernel_rfl)
  (of_decide_eq_true (by kernel_rfl)) (by unfold Func.isWrapper; first | (rw [if_pos (by decide +kernel)]; kernel_rfl) | (rw [if_neg (by decide +kernel)]; exact ⟨rfl,rfl⟩))
  (fun os started H enc _ => FnBridgeLines_lifted os started H enc)
theorem FnBridgeLines_holds : Rows.FnBridgeLinesCardSaid :=
 Claim7.holds_tied_plain_at .later [] [.data,.data] true _ false
  FnBridgeLines_row (fun _ h => by cases h) (by kernel_rfl) (fun _ h => by cases h) fnBridgeLines_row_tie rfl ⟨rfl,rfl⟩ (by kernel_rfl) rfl
  (fun f fn hf hfn => by
   obtain rfl : f = 6:=Option.some.inj ((show Tryz.prog.funcNamed "loop.example/feedbridge/laws.FnBridgeLines" = some 6 by kernel_rfl).symm.trans hf) |>.symm;obtain rfl : fn = Tryz.f6:=(Option.some.inj (Tryz.func6.symm.trans hfn)).symm
   exact ⟨by kernel_rfl,fun j t ht => by
    rw [Tryz.params6] at ht;have hm : t ∈ [40]:=by simpa using Array.mem_of_getElem? ht
    have hall : ([40].all fun u => !Tryz.prog.wantsStandIn u) = true:=by kernel_rfl
    exact (show Tryz.prog.wantsStandIn t = false by simpa using List.all_eq_true.1 hall t hm)⟩)
  (by kernel_rfl)
#print axioms FnBridgeLines_holds
end Go.Proofs.YtfnmlffpnmmcdaaGreatDoor
