/- Part of a proof. -/
import Derived.Test.YtfdcjngclelnhaaGreatXS
set_option linter.unusedSectionVars false
set_option linter.unusedSimpArgs false
set_option linter.unusedVariables false
namespace Go.Proofs.YtfdcjngclelnhaaGreat
open Go Go.RowKit
set_option maxRecDepth 100000
set_option maxHeartbeats 4000000
noncomputable section
inductive p_prim_V where
  | e (s0:B74)
def p_prim_at:p_prim_V → Pth × List AV × Heap
  | .e s0=>([],startT Tryz.f157 [.ptr (some (0,0))],[b74 s0 0])
def p_prim_st (S:Fns) (r:D × B74 → Prop) (l:p_prim_V → Prop):p_prim_V → Prop
  | .e s0=>cnd (s0.c4 != 0) (r ((.agg [.int .i64 0,.int .i64 0,.str [],.str [],.nils,.nils]),s0)) (bn (asL s0.c0) fun x64=>bn (atD x64 s0.c1) fun x65=>an (okG 107 x65) (cnd (cI x65 0 == 2) (r ((.agg [.int .i64 3,.int .i64 (cI x65 2),.str [],.str [],.nils,.nils]),(B74.mk s0.c0 (IntKind.i64.wrap (s0.c1 + 1)) s0.c2 s0.c3 s0.c4))) (cnd (cI x65 0 == 3) (r ((.agg [.int .i64 4,.int .i64 0,.str (cS x65 1),.str [],.nils,.nils]),(B74.mk s0.c0 (IntKind.i64.wrap (s0.c1 + 1)) s0.c2 s0.c3 s0.c4))) (bn (S.p_take s0 [110,117,108,108]) fun x66=>cnd x66.1 (r ((.agg [.int .i64 1,.int .i64 0,.str [],.str [],.nils,.nils]),x66.2)) (bn (S.p_take x66.2 [116,114,117,101]) fun x67=>cnd x67.1 (r ((.agg [.int .i64 2,.int .i64 1,.str [],.str [],.nils,.nils]),x67.2)) (bn (S.p_take x67.2 [102,97,108,115,101]) fun x68=>cnd x68.1 (r ((.agg [.int .i64 2,.int .i64 0,.str [],.str [],.nils,.nils]),x68.2)) (bn (S.p_take x68.2 [58]) fun x69=>cnd x69.1 (bn (S.p_name x69.2) fun x70=>r ((.agg [.int .i64 6,.int .i64 0,.str x70.1,.str [],.nils,.nils]),x70.2)) (bn (S.p_take x69.2 [99,97,115,101]) fun x71=>cnd x71.1 (bn (S.p_must x71.2 [119,104,101,110]) fun x72=>bn (S.p_Expr x72) fun x73=>an (okG 26 x73.1) (fl x73.1 [4,5] (bn (S.p_must x73.2 [116,104,101,110]) fun x74=>bn (S.p_Expr x74) fun x75=>an (okG 26 x75.1) (fl x75.1 [4,5] (bn (S.p_must x75.2 [101,108,115,101]) fun x76=>bn (S.p_Expr x76) fun x77=>an (okG 26 x77.1) (fl x77.1 [4,5] (bn (S.p_must x77.2 [101,110,100]) fun x78=>r ((.agg [.int .i64 11,.int .i64 0,.str [],.str [],D.slice [G 26 x73.1,G 26 x75.1,G 26 x77.1],.nils]),x78)))))))) (bn (S.p_take x71.2 [101,120,105,115,116,115]) fun x79=>cnd x79.1 (bn (S.p_must x79.2 [40]) fun x80=>bn (S.p_Query x80) fun x81=>an (okG 38 x81.1) (fl x81.1 [2,3,4,5,6,7,9] (bn (S.p_must x81.2 [41]) fun x82=>r ((.agg [.int .i64 12,.int .i64 0,.str [],.str [],.nils,D.slice [G 38 x81.1]]),x82)))) (bn (S.p_take x79.2 [40]) fun x83=>cnd x83.1 (bn (S.p_is x83.2 [115,101,108,101,99,116]) fun x84=>cnd x84.1 (bn (S.p_Query x84.2) fun x85=>an (okG 38 x85.1) (bn (S.p_must x85.2 [41]) fun x86=>r ((.agg [.int .i64 14,.int .i64 0,.str [],.str [],.nils,D.slice [G 38 x85.1]]),x86))) (bn (S.p_Expr x84.2) fun x87=>an (okG 26 x87.1) (fl x87.1 [4,5] (bn (S.p_must x87.2 [41]) fun x88=>fl x87.1 [4,5] (r ((G 26 x87.1),x88)))))) (bn (S.p_name x83.2) fun x89=>cnd (x89.1 == [99,111,117,110,116]) (bn (S.p_take x89.2 [40]) fun x90=>cnd x90.1 (cnd (x89.1 == [99,111,117,110,116]) (bn (S.p_take x90.2 [42]) fun x91=>cnd x91.1 (bn (S.p_must x91.2 [41]) fun x92=>r ((.agg [.int .i64 15,.int .i64 0,.str x89.1,.str [],.nils,.nils]),x92)) (bn (S.p_Expr x91.2) fun x93=>an (okG 26 x93.1) (bn (S.p_must x93.2 [41]) fun x94=>r ((.agg [.int .i64 15,.int .i64 0,.str x89.1,.str [],D.slice [G 26 x93.1],.nils]),x94)))) (bn (S.p_Expr x90.2) fun x95=>an (okG 26 x95.1) (bn (S.p_must x95.2 [41]) fun x96=>r ((.agg [.int .i64 15,.int .i64 0,.str x89.1,.str [],D.slice [G 26 x95.1],.nils]),x96)))) (bn (S.p_take x90.2 [46]) fun x97=>cnd x97.1 (bn (S.p_name x97.2) fun x98=>r ((.agg [.int .i64 5,.int .i64 0,.str x98.1,.str x89.1,.nils,.nils]),x98.2)) (r ((.agg [.int .i64 5,.int .i64 0,.str x89.1,.str [],.nils,.nils]),x97.2)))) (cnd (x89.1 == [115,117,109]) (bn (S.p_take x89.2 [40]) fun x99=>cnd x99.1 (cnd (x89.1 == [99,111,117,110,116]) (bn (S.p_take x99.2 [42]) fun x100=>cnd x100.1 (bn (S.p_must x100.2 [41]) fun x101=>r ((.agg [.int .i64 15,.int .i64 0,.str x89.1,.str [],.nils,.nils]),x101)) (bn (S.p_Expr x100.2) fun x102=>an (okG 26 x102.1) (bn (S.p_must x102.2 [41]) fun x103=>r ((.agg [.int .i64 15,.int .i64 0,.str x89.1,.str [],D.slice [G 26 x102.1],.nils]),x103)))) (bn (S.p_Expr x99.2) fun x104=>an (okG 26 x104.1) (bn (S.p_must x104.2 [41]) fun x105=>r ((.agg [.int .i64 15,.int .i64 0,.str x89.1,.str [],D.slice [G 26 x104.1],.nils]),x105)))) (bn (S.p_take x99.2 [46]) fun x106=>cnd x106.1 (bn (S.p_name x106.2) fun x107=>r ((.agg [.int .i64 5,.int .i64 0,.str x107.1,.str x89.1,.nils,.nils]),x107.2)) (r ((.agg [.int .i64 5,.int .i64 0,.str x89.1,.str [],.nils,.nils]),x106.2)))) (cnd (x89.1 == [109,105,110]) (bn (S.p_take x89.2 [40]) fun x108=>cnd x108.1 (cnd (x89.1 == [99,111,117,110,116]) (bn (S.p_take x108.2 [42]) fun x109=>cnd x109.1 (bn (S.p_must x109.2 [41]) fun x110=>r ((.agg [.int .i64 15,.int .i64 0,.str x89.1,.str [],.nils,.nils]),x110)) (bn (S.p_Expr x109.2) fun x111=>an (okG 26 x111.1) (bn (S.p_must x111.2 [41]) fun x112=>r ((.agg [.int .i64 15,.int .i64 0,.str x89.1,.str [],D.slice [G 26 x111.1],.nils]),x112)))) (bn (S.p_Expr x108.2) fun x113=>an (okG 26 x113.1) (bn (S.p_must x113.2 [41]) fun x114=>r ((.agg [.int .i64 15,.int .i64 0,.str x89.1,.str [],D.slice [G 26 x113.1],.nils]),x114)))) (bn (S.p_take x108.2 [46]) fun x115=>cnd x115.1 (bn (S.p_name x115.2) fun x116=>r ((.agg [.int .i64 5,.int .i64 0,.str x116.1,.str x89.1,.nils,.nils]),x116.2)) (r ((.agg [.int .i64 5,.int .i64 0,.str x89.1,.str [],.nils,.nils]),x115.2)))) (cnd (x89.1 == [109,97,120]) (bn (S.p_take x89.2 [40]) fun x117=>cnd x117.1 (cnd (x89.1 == [99,111,117,110,116]) (bn (S.p_take x117.2 [42]) fun x118=>cnd x118.1 (bn (S.p_must x118.2 [41]) fun x119=>r ((.agg [.int .i64 15,.int .i64 0,.str x89.1,.str [],.nils,.nils]),x119)) (bn (S.p_Expr x118.2) fun x120=>an (okG 26 x120.1) (bn (S.p_must x120.2 [41]) fun x121=>r ((.agg [.int .i64 15,.int .i64 0,.str x89.1,.str [],D.slice [G 26 x120.1],.nils]),x121)))) (bn (S.p_Expr x117.2) fun x122=>an (okG 26 x122.1) (bn (S.p_must x122.2 [41]) fun x123=>r ((.agg [.int .i64 15,.int .i64 0,.str x89.1,.str [],D.slice [G 26 x122.1],.nils]),x123)))) (bn (S.p_take x117.2 [46]) fun x124=>cnd x124.1 (bn (S.p_name x124.2) fun x125=>r ((.agg [.int .i64 5,.int .i64 0,.str x125.1,.str x89.1,.nils,.nils]),x125.2)) (r ((.agg [.int .i64 5,.int .i64 0,.str x89.1,.str [],.nils,.nils]),x124.2)))) (bn (S.p_take x89.2 [46]) fun x126=>cnd x126.1 (bn (S.p_name x126.2) fun x127=>r ((.agg [.int .i64 5,.int .i64 0,.str x127.1,.str x89.1,.nils,.nils]),x127.2)) (r ((.agg [.int .i64 5,.int .i64 0,.str x89.1,.str [],.nils,.nils]),x126.2)))))))))))))))))
theorem p_prim_k (S:Fns):KOk Tryz.prog [] 157 Tryz.f157 (enAll S) [] 1 p_prim_at enc25 (p_prim_st S):=by intro K g v; cases v <;> kernel_rfl
def p_prim_raw (S:Fns) (n:Nat) (s0:B74):Option (D × B74):=rawN enc25 (p_prim_st S) n (.e s0)
theorem p_prim_ok {S:Fns} (hS:FnsOk S) (n:Nat):EntryOk Tryz.prog (e25 157 26 (p_prim_raw S n)):=e25_ok fun _ _ hr=>gen_e prog_ok Tryz.func157 rfl hS (p_prim_k S) (fun _ _ _ _ v=>by cases v <;> exact id) rfl rfl hr
inductive t_number_V where
  | en (s0:B132)
  | eo (s0:B132) (es0:List D) (w0:Nat)
  | l0 (y0:Int) (y1:List UInt8) (y2:Int) (y3:Int) (y4:Int) (y5:List UInt8) (y6:Int) (y7:Nat)
  | l1 (y0:Int) (y1:List UInt8) (y2:Int) (y3:Int) (y4:Int) (y5:List UInt8) (y6:Int) (y7:Nat) (y8:List D) (y9:Nat)
def t_number_at:t_number_V → Pth × List AV × Heap
  | .en s0=>([],startT Tryz.f112 [.ptr (some (0,0))],[some (.cells 132 [.dat (.str (s0).c0),.dat (.int .i64 (s0).c1),.dat .nils] s0.ver)])
  | .eo s0 es0 w0=>([],startT Tryz.f112 [.ptr (some (0,0))],[some (.cells 132 [.dat (.str (s0).c0),.dat (.int .i64 (s0).c1),.own (.at 0 2 w0 107) es0] s0.ver)])
  | .l0 y0 y1 y2 y3 y4 y5 y6 y7=>([0,1,0,1,1,1,1,1],mkT 39 [(0,.ptr (some (0,0))),(3,.dat (.int .i64 y0)),(4,.dat (.str y1)),(5,.dat (.int .i64 y2)),(20,.dat (.int .i64 y3)),(21,.dat (.int .i64 y4))],[some (.cells 132 [.dat (.str y5),.dat (.int .i64 y6),.dat .nils] y7)])
  | .l1 y0 y1 y2 y3 y4 y5 y6 y7 y8 y9=>([0,1,0,1,1,1,1,1],mkT 39 [(0,.ptr (some (0,0))),(3,.dat (.int .i64 y0)),(4,.dat (.str y1)),(5,.dat (.int .i64 y2)),(20,.dat (.int .i64 y3)),(21,.dat (.int .i64 y4))],[some (.cells 132 [.dat (.str y5),.dat (.int .i64 y6),.own (.at 0 2 y7 107) y8] y9)])
def t_number_st (S:Fns) (r:Int × B132 → Prop) (l:t_number_V → Prop):t_number_V → Prop
  | .en s0=>bn (S.t_run_digit (B132.mk s0.c0 s0.c1 GC.n s0.ver)) fun x24=>gcas x24.2.c2 (cnd (decide (Int.ofNat x24.1.length > 18)) (bn (S.t_form (B132.mk x24.2.c0 x24.2.c1 GC.n x24.2.ver) s0.c1) fun x26=>gcas x26.2.c2 (r (x26.1,(⟨x26.2.c0,x26.2.c1,.n,x26.2.ver⟩:B132))) False fun x27 w27=>r (x26.1,(⟨x26.2.c0,x26.2.c1,(.o x27 w27),x26.2.ver⟩:B132))) (l (.l0 s0.c1 x24.1 0 (Int.ofNat x24.1.length) 0 x24.2.c0 x24.2.c1 x24.2.ver))) False fun x25 w25=>cnd (decide (Int.ofNat x24.1.length > 18)) (bn (S.t_form (B132.mk x24.2.c0 x24.2.c1 (GC.o x25 w25) x24.2.ver) s0.c1) fun x28=>gcas x28.2.c2 (r (x28.1,(⟨x28.2.c0,x28.2.c1,.n,x28.2.ver⟩:B132))) False fun x29 w29=>r (x28.1,(⟨x28.2.c0,x28.2.c1,(.o x29 w29),x28.2.ver⟩:B132))) (l (.l1 s0.c1 x24.1 0 (Int.ofNat x24.1.length) 0 x24.2.c0 x24.2.c1 w25 x25 x24.2.ver))
  | .eo s0 es0 w0=>bn (S.t_run_digit (B132.mk s0.c0 s0.c1 (GC.o es0 w0) s0.ver)) fun x30=>gcas x30.2.c2 (cnd (decide (Int.ofNat x30.1.length > 18)) (bn (S.t_form (B132.mk x30.2.c0 x30.2.c1 GC.n x30.2.ver) s0.c1) fun x32=>gcas x32.2.c2 (r (x32.1,(⟨x32.2.c0,x32.2.c1,.n,x32.2.ver⟩:B132))) False fun x33 w33=>r (x32.1,(⟨x32.2.c0,x32.2.c1,(.o x33 w33),x32.2.ver⟩:B132))) (l (.l0 s0.c1 x30.1 0 (Int.ofNat x30.1.length) 0 x30.2.c0 x30.2.c1 x30.2.ver))) False fun x31 w31=>cnd (decide (Int.ofNat x30.1.length > 18)) (bn (S.t_form (B132.mk x30.2.c0 x30.2.c1 (GC.o x31 w31) x30.2.ver) s0.c1) fun x34=>gcas x34.2.c2 (r (x34.1,(⟨x34.2.c0,x34.2.c1,.n,x34.2.ver⟩:B132))) False fun x35 w35=>r (x34.1,(⟨x34.2.c0,x34.2.c1,(.o x35 w35),x34.2.ver⟩:B132))) (l (.l1 s0.c1 x30.1 0 (Int.ofNat x30.1.length) 0 x30.2.c0 x30.2.c1 w31 x31 x30.2.ver))
  | .l0 y0 y1 y2 y3 y4 y5 y6 y7=>cnd (decide (y4 < y3)) (cnd (decide (y4 < 0)) False (bn (y1[y4.toNat]?) fun x36=>l (.l0 y0 y1 (IntKind.i64.wrap (IntKind.i64.wrap (10 * y2) + IntKind.i64.wrap (IntKind.u8.wrap (Int.ofNat x36.toNat - 48)))) y3 (IntKind.i64.wrap (y4 + 1)) y5 y6 y7))) (bn (S.t_put (B132.mk y5 y6 GC.n y7) (.agg [.int .i64 2,.str y1,.int .i64 y2,.int .i64 y0])) fun x37=>gcas x37.2.c2 (r (x37.1,(⟨x37.2.c0,x37.2.c1,.n,x37.2.ver⟩:B132))) False fun x38 w38=>r (x37.1,(⟨x37.2.c0,x37.2.c1,(.o x38 w38),x37.2.ver⟩:B132)))
  | .l1 y0 y1 y2 y3 y4 y5 y6 y7 y8 y9=>cnd (decide (y4 < y3)) (cnd (decide (y4 < 0)) False (bn (y1[y4.toNat]?) fun x39=>l (.l1 y0 y1 (IntKind.i64.wrap (IntKind.i64.wrap (10 * y2) + IntKind.i64.wrap (IntKind.u8.wrap (Int.ofNat x39.toNat - 48)))) y3 (IntKind.i64.wrap (y4 + 1)) y5 y6 y7 y8 y9))) (bn (S.t_put (B132.mk y5 y6 (GC.o y8 y7) y9) (.agg [.int .i64 2,.str y1,.int .i64 y2,.int .i64 y0])) fun x40=>gcas x40.2.c2 (r (x40.1,(⟨x40.2.c0,x40.2.c1,.n,x40.2.ver⟩:B132))) False fun x41 w41=>r (x40.1,(⟨x40.2.c0,x40.2.c1,(.o x41 w41),x40.2.ver⟩:B132)))
theorem t_number_k (S:Fns):KOk Tryz.prog [true] 112 Tryz.f112 (enAll S) [([0,1,0,1,1,1,1,1],[(1,2),(6,14),(22,17)],false)] 1 t_number_at enc37 (t_number_st S):=by intro K g v; cases v <;> kernel_rfl
theorem t_number_m {S:Fns}:Mono (t_number_st S):=fun _ _ _ hl v=>by cases v <;> (dsimp only [t_number_st]; repeat' first | exact id | exact hl _ | apply imp_an | apply imp_cnd | (refine imp_bn fun _=>?_) | apply imp_fl | (refine imp_gcas ?_ ?_ fun _ _=>?_))
def t_number_raw (S:Fns) (n:Nat) (s0:B132):Option (Int × B132):=gcas s0.c2 (rawN enc37 (t_number_st S) n (.en s0)) (none) fun es0 w0=>rawN enc37 (t_number_st S) n (.eo s0 es0 w0)
theorem t_number_ok {S:Fns} (hS:FnsOk S) (n:Nat):EntryOk Tryz.prog (e37 112 (t_number_raw S n)):=e37_ok fun ⟨_,_,g0,_⟩ r hr=>by
  rcases g0 with _ | _ | ⟨_,_⟩
  · exact gen_e prog_ok Tryz.func112 rfl hS (t_number_k S) t_number_m rfl rfl hr
  · exact nomatch (show (none:Option (Int × B132)) = some r from hr)
  · exact gen_e prog_ok Tryz.func112 rfl hS (t_number_k S) t_number_m rfl rfl hr
inductive p_src_V where
  | e (s0:B74)
  | l0 (y0:B74) (y1:D)
  | l1 (y0:B74) (y1:Int) (y2:List D) (y3:List D) (y4:Nat)
def p_src_at:p_src_V → Pth × List AV × Heap
  | .e s0=>([],startT Tryz.f95 [.ptr (some (0,0))],[b74 s0 0])
  | .l0 y0 y1=>([0,0,1,1],mkT 38 [(0,.ptr (some (0,0))),(2,.ptr (some (1,0))),(3,.ptr (some (2,0)))],[some (o74 y0 0),some (.cells 65 [.dat (.int .i64 0),.dat (.str []),.dat (.bool false),.dat (.str []),.dat .nils,.dat .nils,.dat .nils] 0),some (sbx 65 y1 7)])
  | .l1 y0 y1 y2 y3 y4=>([0,0,1,1],mkT 38 [(0,.ptr (some (0,0))),(2,.ptr (some (1,0))),(3,.ptr (some (2,0)))],[some (o74 y0 0),some (.cells 65 [.dat (.int .i64 0),.dat (.str []),.dat (.bool false),.dat (.str []),.dat .nils,.dat .nils,.dat .nils] 0),some (.cells 65 [.dat (.int .i64 y1),.dat (.str []),.dat (.bool false),.dat (.str []),.dat .nils,.own .full y2,.own .full y3] y4)])
def p_src_st (S:Fns) (r:D × B74 → Prop) (l:p_src_V → Prop):p_src_V → Prop
  | .e s0=>bn (S.p_one s0) fun x61=>an (okG 65 x61.1) (fl x61.1 [4,5,6] (l (.l0 x61.2 x61.1)))
  | .l0 y0 y1=>cnd (y0.c4 == 0) (bn (S.p_is y0 [108,101,102,116]) fun x62=>cnd x62.1 (bn (S.p_take x62.2 [108,101,102,116]) fun x63=>cnd x63.1 (bn (S.p_must x63.2 [106,111,105,110]) fun x64=>bn (S.p_one x64) fun x65=>an (okG 65 x65.1) (fl x65.1 [4,5,6] (bn (S.p_must x65.2 [111,110]) fun x66=>bn (S.p_Expr x66) fun x67=>an (okG 26 x67.1) (l (.l1 x67.2 4 [G 65 y1,G 65 x65.1] [G 26 x67.1] 14))))) (bn (S.p_must x63.2 [106,111,105,110]) fun x68=>bn (S.p_one x68) fun x69=>an (okG 65 x69.1) (fl x69.1 [4,5,6] (bn (S.p_must x69.2 [111,110]) fun x70=>bn (S.p_Expr x70) fun x71=>an (okG 26 x71.1) (l (.l1 x71.2 3 [G 65 y1,G 65 x69.1] [G 26 x71.1] 14)))))) (bn (S.p_is x62.2 [106,111,105,110]) fun x72=>cnd x72.1 (bn (S.p_take x72.2 [108,101,102,116]) fun x73=>cnd x73.1 (bn (S.p_must x73.2 [106,111,105,110]) fun x74=>bn (S.p_one x74) fun x75=>an (okG 65 x75.1) (fl x75.1 [4,5,6] (bn (S.p_must x75.2 [111,110]) fun x76=>bn (S.p_Expr x76) fun x77=>an (okG 26 x77.1) (l (.l1 x77.2 4 [G 65 y1,G 65 x75.1] [G 26 x77.1] 14))))) (bn (S.p_must x73.2 [106,111,105,110]) fun x78=>bn (S.p_one x78) fun x79=>an (okG 65 x79.1) (fl x79.1 [4,5,6] (bn (S.p_must x79.2 [111,110]) fun x80=>bn (S.p_Expr x80) fun x81=>an (okG 26 x81.1) (l (.l1 x81.2 3 [G 65 y1,G 65 x79.1] [G 26 x81.1] 14)))))) (fl y1 [4,5,6] (r ((G 65 y1),x72.2))))) (fl y1 [4,5,6] (r ((G 65 y1),y0)))
  | .l1 y0 y1 y2 y3 y4=>cnd (y0.c4 == 0) (bn (S.p_is y0 [108,101,102,116]) fun x82=>cnd x82.1 (bn (S.p_take x82.2 [108,101,102,116]) fun x83=>cnd x83.1 (bn (S.p_must x83.2 [106,111,105,110]) fun x84=>bn (S.p_one x84) fun x85=>an (okG 65 x85.1) (fl x85.1 [4,5,6] (bn (S.p_must x85.2 [111,110]) fun x86=>bn (S.p_Expr x86) fun x87=>an (okG 26 x87.1) (l (.l1 x87.2 4 [.agg [.int .i64 y1,.str [],.bool false,.str [],.nils,D.slice y2,D.slice y3],G 65 x85.1] [G 26 x87.1] (y4 + 7)))))) (bn (S.p_must x83.2 [106,111,105,110]) fun x88=>bn (S.p_one x88) fun x89=>an (okG 65 x89.1) (fl x89.1 [4,5,6] (bn (S.p_must x89.2 [111,110]) fun x90=>bn (S.p_Expr x90) fun x91=>an (okG 26 x91.1) (l (.l1 x91.2 3 [.agg [.int .i64 y1,.str [],.bool false,.str [],.nils,D.slice y2,D.slice y3],G 65 x89.1] [G 26 x91.1] (y4 + 7))))))) (bn (S.p_is x82.2 [106,111,105,110]) fun x92=>cnd x92.1 (bn (S.p_take x92.2 [108,101,102,116]) fun x93=>cnd x93.1 (bn (S.p_must x93.2 [106,111,105,110]) fun x94=>bn (S.p_one x94) fun x95=>an (okG 65 x95.1) (fl x95.1 [4,5,6] (bn (S.p_must x95.2 [111,110]) fun x96=>bn (S.p_Expr x96) fun x97=>an (okG 26 x97.1) (l (.l1 x97.2 4 [.agg [.int .i64 y1,.str [],.bool false,.str [],.nils,D.slice y2,D.slice y3],G 65 x95.1] [G 26 x97.1] (y4 + 7)))))) (bn (S.p_must x93.2 [106,111,105,110]) fun x98=>bn (S.p_one x98) fun x99=>an (okG 65 x99.1) (fl x99.1 [4,5,6] (bn (S.p_must x99.2 [111,110]) fun x100=>bn (S.p_Expr x100) fun x101=>an (okG 26 x101.1) (l (.l1 x101.2 3 [.agg [.int .i64 y1,.str [],.bool false,.str [],.nils,D.slice y2,D.slice y3],G 65 x99.1] [G 26 x101.1] (y4 + 7))))))) (r ((.agg [.int .i64 y1,.str [],.bool false,.str [],.nils,D.slice y2,D.slice y3]),x92.2)))) (r ((.agg [.int .i64 y1,.str [],.bool false,.str [],.nils,D.slice y2,D.slice y3]),y0))
theorem p_src_k (S:Fns):KOk Tryz.prog [] 95 Tryz.f95 (enAll S) [([0,0,1,1],[(1,1),(4,34)],false)] 1 p_src_at enc25 (p_src_st S):=by intro K g v; cases v <;> kernel_rfl
theorem p_src_m {S:Fns}:Mono (p_src_st S):=fun _ _ _ hl v=>by cases v <;> (dsimp only [p_src_st]; repeat' first | exact id | exact hl _ | apply imp_an | apply imp_cnd | (refine imp_bn fun _=>?_) | apply imp_fl | (refine imp_gcas ?_ ?_ fun _ _=>?_))
def p_src_raw (S:Fns) (n:Nat) (s0:B74):Option (D × B74):=rawN enc25 (p_src_st S) n (.e s0)
theorem p_src_ok {S:Fns} (hS:FnsOk S) (n:Nat):EntryOk Tryz.prog (e25 95 65 (p_src_raw S n)):=e25_ok fun _ _ hr=>gen_e prog_ok Tryz.func95 rfl hS (p_src_k S) p_src_m rfl rfl hr
inductive t_run_name_V where
  | en (s0:B132)
  | eo (s0:B132) (es0:List D) (w0:Nat)
  | l0 (y0:Int) (y1:List UInt8) (y2:Int) (y3:Nat)
  | l1 (y0:Int) (y1:List UInt8) (y2:Int) (y3:Nat) (y4:List D) (y5:Nat)
def t_run_name_at:t_run_name_V → Pth × List AV × Heap
  | .en s0=>([],startT Tryz.f132 [.ptr (some (0,0)),.func (.func 133) [] []],[some (.cells 132 [.dat (.str (s0).c0),.dat (.int .i64 (s0).c1),.dat .nils] s0.ver)])
  | .eo s0 es0 w0=>([],startT Tryz.f132 [.ptr (some (0,0)),.func (.func 133) [] []],[some (.cells 132 [.dat (.str (s0).c0),.dat (.int .i64 (s0).c1),.own (.at 0 2 w0 107) es0] s0.ver)])
  | .l0 y0 y1 y2 y3=>([0,0,1,1],mkT 50 [(0,.ptr (some (0,0))),(1,.func (.func 133) [] []),(5,.dat (.int .i64 y0))],[some (.cells 132 [.dat (.str y1),.dat (.int .i64 y2),.dat .nils] y3)])
  | .l1 y0 y1 y2 y3 y4 y5=>([0,0,1,1],mkT 50 [(0,.ptr (some (0,0))),(1,.func (.func 133) [] []),(5,.dat (.int .i64 y0))],[some (.cells 132 [.dat (.str y1),.dat (.int .i64 y2),.own (.at 0 2 y3 107) y4] y5)])
def t_run_name_st (S:Fns) (r:List UInt8 × B132 → Prop) (l:t_run_name_V → Prop):t_run_name_V → Prop
  | .en s0=>l (.l0 s0.c1 s0.c0 s0.c1 s0.ver)
  | .eo s0 es0 w0=>l (.l1 s0.c1 s0.c0 s0.c1 w0 es0 s0.ver)
  | .l0 y0 y1 y2 y3=>cnd (decide (y2 < Int.ofNat y1.length)) (cnd (decide (y2 < 0)) False (bn (y1[y2.toNat]?) fun x8=>bn (S.t_name1 (Int.ofNat x8.toNat)) fun x9=>cnd x9 (l (.l0 y0 y1 (IntKind.i64.wrap (y2 + 1)) (y3 + 1))) (an (decide (0 ≤ y2) && decide (y2 ≤ Int.ofNat y1.length)) (an (decide (0 ≤ y0) && decide (y0 ≤ Int.ofNat y2.toNat)) (r ((List.take (y2.toNat - y0.toNat) (List.drop y0.toNat y1)),(⟨y1,y2,.n,y3⟩:B132))))))) (an (decide (0 ≤ y2) && decide (y2 ≤ Int.ofNat y1.length)) (an (decide (0 ≤ y0) && decide (y0 ≤ Int.ofNat y2.toNat)) (r ((List.take (y2.toNat - y0.toNat) (List.drop y0.toNat y1)),(⟨y1,y2,.n,y3⟩:B132)))))
  | .l1 y0 y1 y2 y3 y4 y5=>cnd (decide (y2 < Int.ofNat y1.length)) (cnd (decide (y2 < 0)) False (bn (y1[y2.toNat]?) fun x10=>bn (S.t_name1 (Int.ofNat x10.toNat)) fun x11=>cnd x11 (l (.l1 y0 y1 (IntKind.i64.wrap (y2 + 1)) y3 y4 (y5 + 1))) (an (decide (0 ≤ y2) && decide (y2 ≤ Int.ofNat y1.length)) (an (decide (0 ≤ y0) && decide (y0 ≤ Int.ofNat y2.toNat)) (r ((List.take (y2.toNat - y0.toNat) (List.drop y0.toNat y1)),(⟨y1,y2,(.o y4 y3),y5⟩:B132))))))) (an (decide (0 ≤ y2) && decide (y2 ≤ Int.ofNat y1.length)) (an (decide (0 ≤ y0) && decide (y0 ≤ Int.ofNat y2.toNat)) (r ((List.take (y2.toNat - y0.toNat) (List.drop y0.toNat y1)),(⟨y1,y2,(.o y4 y3),y5⟩:B132)))))
theorem t_run_name_k (S:Fns):KOk Tryz.prog [true] 132 Tryz.f132 (enAll S) [([0,0,1,1],[(2,3),(6,44)],false)] 1 t_run_name_at enc40 (t_run_name_st S):=by intro K g v; cases v <;> kernel_rfl
theorem t_run_name_m {S:Fns}:Mono (t_run_name_st S):=fun _ _ _ hl v=>by cases v <;> (dsimp only [t_run_name_st]; repeat' first | exact id | exact hl _ | apply imp_an | apply imp_cnd | (refine imp_bn fun _=>?_) | apply imp_fl | (refine imp_gcas ?_ ?_ fun _ _=>?_))
def t_run_name_raw (S:Fns) (n:Nat) (s0:B132):Option (List UInt8 × B132):=gcas s0.c2 (rawN enc40 (t_run_name_st S) n (.en s0)) (none) fun es0 w0=>rawN enc40 (t_run_name_st S) n (.eo s0 es0 w0)
theorem t_run_name_ok {S:Fns} (hS:FnsOk S) (n:Nat):EntryOk Tryz.prog (e40 132 133 (t_run_name_raw S n)):=e40_ok fun ⟨_,_,g0,_⟩ r hr=>by
  rcases g0 with _ | _ | ⟨_,_⟩
  · exact gen_e prog_ok Tryz.func132 rfl hS (t_run_name_k S) t_run_name_m rfl rfl hr
  · exact nomatch (show (none:Option (List UInt8 × B132)) = some r from hr)
  · exact gen_e prog_ok Tryz.func132 rfl hS (t_run_name_k S) t_run_name_m rfl rfl hr
inductive p_cmp_V where
  | e (s0:B74)
def p_cmp_at:p_cmp_V → Pth × List AV × Heap
  | .e s0=>([],startT Tryz.f121 [.ptr (some (0,0))],[b74 s0 0])
def p_cmp_st (S:Fns) (r:D × B74 → Prop) (l:p_cmp_V → Prop):p_cmp_V → Prop
  | .e s0=>bn (S.p_sum s0) fun x28=>an (okG 26 x28.1) (fl x28.1 [4,5] (bn (S.p_oneOf x28.2 (.slice [.str [61],.str [60,62],.str [60,61],.str [62,61],.str [60],.str [62]])) fun x29=>cnd (!x29.1 == []) (bn (S.p_sum x29.2) fun x30=>an (okG 26 x30.1) (an (okG 26 (G 26 x28.1)) (an (okG 26 (G 26 x30.1)) (bn (S.r_bin x29.1 (G 26 x28.1) (G 26 x30.1)) fun x31=>an (okG 26 x31) (fl x31 [4,5] (r ((G 26 x31),x30.2))))))) (bn (S.p_take x29.2 [105,115]) fun x32=>cnd x32.1 (bn (S.p_take x32.2 [110,111,116]) fun x33=>cnd x33.1 (bn (S.p_must x33.2 [110,117,108,108]) fun x34=>r ((.agg [.int .i64 9,.int .i64 1,.str [],.str [],D.slice [G 26 x28.1],.nils]),x34)) (bn (S.p_must x33.2 [110,117,108,108]) fun x35=>r ((.agg [.int .i64 9,.int .i64 0,.str [],.str [],D.slice [G 26 x28.1],.nils]),x35))) (bn (S.p_is x32.2 [110,111,116]) fun x36=>cnd x36.1 (bn (S.p_take x36.2 [110,111,116]) fun x37=>cnd x37.1 (bn (S.p_must x37.2 [105,110]) fun x38=>bn (S.p_must x38 [40]) fun x39=>bn (S.p_Query x39) fun x40=>an (okG 38 x40.1) (fl x40.1 [2,3,4,5,6,7,9] (bn (S.p_must x40.2 [41]) fun x41=>r ((.agg [.int .i64 13,.int .i64 1,.str [],.str [],D.slice [G 26 x28.1],D.slice [G 38 x40.1]]),x41)))) (bn (S.p_must x37.2 [105,110]) fun x42=>bn (S.p_must x42 [40]) fun x43=>bn (S.p_Query x43) fun x44=>an (okG 38 x44.1) (fl x44.1 [2,3,4,5,6,7,9] (bn (S.p_must x44.2 [41]) fun x45=>r ((.agg [.int .i64 13,.int .i64 0,.str [],.str [],D.slice [G 26 x28.1],D.slice [G 38 x44.1]]),x45))))) (bn (S.p_is x36.2 [105,110]) fun x46=>cnd x46.1 (bn (S.p_take x46.2 [110,111,116]) fun x47=>cnd x47.1 (bn (S.p_must x47.2 [105,110]) fun x48=>bn (S.p_must x48 [40]) fun x49=>bn (S.p_Query x49) fun x50=>an (okG 38 x50.1) (fl x50.1 [2,3,4,5,6,7,9] (bn (S.p_must x50.2 [41]) fun x51=>r ((.agg [.int .i64 13,.int .i64 1,.str [],.str [],D.slice [G 26 x28.1],D.slice [G 38 x50.1]]),x51)))) (bn (S.p_must x47.2 [105,110]) fun x52=>bn (S.p_must x52 [40]) fun x53=>bn (S.p_Query x53) fun x54=>an (okG 38 x54.1) (fl x54.1 [2,3,4,5,6,7,9] (bn (S.p_must x54.2 [41]) fun x55=>r ((.agg [.int .i64 13,.int .i64 0,.str [],.str [],D.slice [G 26 x28.1],D.slice [G 38 x54.1]]),x55))))) (fl x28.1 [4,5] (r ((G 26 x28.1),x46.2))))))))
theorem p_cmp_k (S:Fns):KOk Tryz.prog [] 121 Tryz.f121 (enAll S) [] 1 p_cmp_at enc25 (p_cmp_st S):=by intro K g v; cases v <;> kernel_rfl
def p_cmp_raw (S:Fns) (n:Nat) (s0:B74):Option (D × B74):=rawN enc25 (p_cmp_st S) n (.e s0)
theorem p_cmp_ok {S:Fns} (hS:FnsOk S) (n:Nat):EntryOk Tryz.prog (e25 121 26 (p_cmp_raw S n)):=e25_ok fun _ _ hr=>gen_e prog_ok Tryz.func121 rfl hS (p_cmp_k S) (fun _ _ _ _ v=>by cases v <;> exact id) rfl rfl hr
inductive s_left_and_V where
  | e (s0:B105) (a3:D)
  | l0 (y0:D) (y1:B105) (y2:D) (y3:Nat)
  | l1 (y0:D) (y1:Int) (y2:Int) (y3:B105) (y4:D) (y5:Nat)
def s_left_and_at:s_left_and_V → Pth × List AV × Heap
  | .e s0 a3=>([],startT Tryz.f46 [.ptr (some (0,0)),.func (.func 48) [.ptr (some (0,0))] [],.func (.func 49) [.ptr (some (0,0))] [],.dat a3],[b105 s0 0])
  | .l0 y0 y1 y2 y3=>([1,1,0,1],mkT 30 [(1,.func (.func 48) [.ptr (some (0,0))] []),(2,.func (.func 49) [.ptr (some (0,0))] []),(3,.dat y0),(8,.ptr (some (1,0))),(9,.ptr (some (2,0)))],[some (o105 y1 0),some (.cells 26 [.dat (.int .i64 0),.dat (.int .i64 0),.dat (.str []),.dat (.str []),.dat .nils,.dat .nils] 0),some (sbx 26 y2 y3)])
  | .l1 y0 y1 y2 y3 y4 y5=>([0,1,0,1,1,0,1],mkT 30 [(1,.func (.func 48) [.ptr (some (0,0))] []),(2,.func (.func 49) [.ptr (some (0,0))] []),(3,.dat y0),(8,.ptr (some (1,0))),(9,.ptr (some (2,0))),(14,.dat y0),(15,.dat (.int .i64 y1)),(16,.dat (.int .i64 y2))],[some (o105 y3 0),some (.cells 26 [.dat (.int .i64 0),.dat (.int .i64 0),.dat (.str []),.dat (.str []),.dat .nils,.dat .nils] 0),some (sbx 26 y4 y5)])
def s_left_and_st (S:Fns) (r:D × B105 → Prop) (l:s_left_and_V → Prop):s_left_and_V → Prop
  | .e s0 a3=>bn (S.s_not s0) fun x15=>an (okG 26 x15.1) (fl x15.1 [4,5] (l (.l0 a3 x15.2 x15.1 6)))
  | .l0 y0 y1 y2 y3=>bn (asL y0) fun x16=>l (.l1 y0 (Int.ofNat x16.length) 0 y1 y2 y3)
  | .l1 y0 y1 y2 y3 y4 y5=>cnd (decide (y2 < y1)) (bn (asL y0) fun x17=>bn (atD x17 y2) fun x18=>an x18.flat (bn (asS x18) fun x19=>bn (S.s_word y3 x19) fun x20=>cnd x20.1 (bn (S.s_not x20.2) fun x21=>an (okG 26 x21.1) (an (okG 26 (G 26 y4)) (an (okG 26 (G 26 x21.1)) (bn (S.s_bin x19 (G 26 y4) (G 26 x21.1)) fun x22=>an (okG 26 x22) (fl x22 [4,5] (l (.l0 y0 x21.2 x22 (y5 + 6)))))))) (l (.l1 y0 y1 (IntKind.i64.wrap (y2 + 1)) x20.2 y4 y5)))) (fl y4 [4,5] (r ((G 26 y4),y3)))
theorem s_left_and_k (S:Fns):KOk Tryz.prog [] 46 Tryz.f46 (enAll S) [([1,1,0,1],[(0,1),(4,4),(10,20)],false),([0,1,0,1,1,0,1],[(0,1),(4,4),(10,4),(17,13)],false)] 1 s_left_and_at enc12 (s_left_and_st S):=by intro K g v; cases v <;> kernel_rfl
theorem s_left_and_m {S:Fns}:Mono (s_left_and_st S):=fun _ _ _ hl v=>by cases v <;> (dsimp only [s_left_and_st]; repeat' first | exact id | exact hl _ | apply imp_an | apply imp_cnd | (refine imp_bn fun _=>?_) | apply imp_fl | (refine imp_gcas ?_ ?_ fun _ _=>?_))
def s_left_and_raw (S:Fns) (n:Nat) (s0:B105) (a3:D):Option (D × B105):=rawN enc12 (s_left_and_st S) n (.e s0 a3)
theorem s_left_and_ok {S:Fns} (hS:FnsOk S) (n:Nat):EntryOk Tryz.prog (e12 46 48 49 26 (s_left_and_raw S n)):=e12_ok fun _ _ _ hr=>gen_e prog_ok Tryz.func46 rfl hS (s_left_and_k S) s_left_and_m rfl rfl hr
inductive s_list_key_V where
  | e (s0:B105)
  | l0 (y0:List D) (y1:B105)
  | l1 (y0:List D) (y1:B105) (y2:Nat)
def s_list_key_at:s_list_key_V → Pth × List AV × Heap
  | .e s0=>([],startT Tryz.f93 [.ptr (some (0,0)),.func (.func 94) [.ptr (some (0,0))] []],[b105 s0 0])
  | .l0 y0 y1=>([0,0,1,1],mkT 17 [(0,.ptr (some (0,0))),(1,.func (.func 94) [.ptr (some (0,0))] []),(5,.own .full y0)],[some (o105 y1 0)])
  | .l1 y0 y1 y2=>([0,0,1,1],mkT 17 [(0,.ptr (some (0,0))),(1,.func (.func 94) [.ptr (some (0,0))] []),(5,.own (.tip 1) y0)],[some (o105 y1 0),some (.tip 85 y2 7)])
def s_list_key_st (S:Fns) (r:D × B105 → Prop) (l:s_list_key_V → Prop):s_list_key_V → Prop
  | .e s0=>bn (S.s_key s0) fun x5=>an (okG 85 x5.1) (l (.l0 [G 85 x5.1] x5.2))
  | .l0 y0 y1=>bn (S.s_mark y1 [44]) fun x6=>cnd x6.1 (bn (S.s_key x6.2) fun x7=>an (okG 85 x7.1) (fl x7.1 [4,5] (an (sized 7 y0) (an (roomOk (y0.length + 1) 104) (l (.l1 (y0 ++ [G 85 x7.1]) x7.2 (y0.length + 1))))))) (r ((.slice y0),x6.2))
  | .l1 y0 y1 y2=>bn (S.s_mark y1 [44]) fun x8=>cnd x8.1 (bn (S.s_key x8.2) fun x9=>an (okG 85 x9.1) (fl x9.1 [4,5] (an (y2 == y0.length) (an (roomOk (y2 + 1) 104) (l (.l1 (y0 ++ [G 85 x9.1]) x9.2 (y2 + 1))))))) (r ((.slice y0),x8.2))
theorem s_list_key_k (S:Fns):KOk Tryz.prog [] 93 Tryz.f93 (enAll S) [([0,0,1,1],[(2,3),(6,11)],false)] 1 s_list_key_at enc15 (s_list_key_st S):=by intro K g v; cases v <;> kernel_rfl
theorem s_list_key_m {S:Fns}:Mono (s_list_key_st S):=fun _ _ _ hl v=>by cases v <;> (dsimp only [s_list_key_st]; repeat' first | exact id | exact hl _ | apply imp_an | apply imp_cnd | (refine imp_bn fun _=>?_) | apply imp_fl | (refine imp_gcas ?_ ?_ fun _ _=>?_))
def s_list_key_raw (S:Fns) (n:Nat) (s0:B105):Option (D × B105):=rawN enc15 (s_list_key_st S) n (.e s0)
theorem s_list_key_ok {S:Fns} (hS:FnsOk S) (n:Nat):EntryOk Tryz.prog (e15 93 94 (s_list_key_raw S n)):=e15_ok fun _ _ hr=>gen_e prog_ok Tryz.func93 rfl hS (s_list_key_k S) s_list_key_m rfl rfl hr
inductive p_prod_V where
  | e (s0:B74)
  | l0 (y0:List UInt8) (y1:B74) (y2:D) (y3:Nat)
def p_prod_at:p_prod_V → Pth × List AV × Heap
  | .e s0=>([],startT Tryz.f149 [.ptr (some (0,0))],[b74 s0 0])
  | .l0 y0 y1 y2 y3=>([0,0,1,1,1],mkT 21 [(0,.ptr (some (0,0))),(2,.ptr (some (1,0))),(3,.ptr (some (2,0))),(4,.dat (.str y0))],[some (o74 y1 0),some (.cells 26 [.dat (.int .i64 0),.dat (.int .i64 0),.dat (.str []),.dat (.str []),.dat .nils,.dat .nils] 0),some (sbx 26 y2 y3)])
def p_prod_st (S:Fns) (r:D × B74 → Prop) (l:p_prod_V → Prop):p_prod_V → Prop
  | .e s0=>bn (S.p_unary s0) fun x8=>an (okG 26 x8.1) (fl x8.1 [4,5] (bn (S.p_oneOf x8.2 (.slice [.str [42],.str [47],.str [37]])) fun x9=>l (.l0 x9.1 x9.2 x8.1 6)))
  | .l0 y0 y1 y2 y3=>cnd (!y0 == []) (bn (S.p_unary y1) fun x10=>an (okG 26 x10.1) (an (okG 26 (G 26 y2)) (an (okG 26 (G 26 x10.1)) (bn (S.r_bin y0 (G 26 y2) (G 26 x10.1)) fun x11=>an (okG 26 x11) (fl x11 [4,5] (bn (S.p_oneOf x10.2 (.slice [.str [42],.str [47],.str [37]])) fun x12=>l (.l0 x12.1 x12.2 x11 (y3 + 6)))))))) (fl y2 [4,5] (r ((G 26 y2),y1)))
theorem p_prod_k (S:Fns):KOk Tryz.prog [] 149 Tryz.f149 (enAll S) [([0,0,1,1,1],[(1,1),(5,16)],false)] 1 p_prod_at enc25 (p_prod_st S):=by intro K g v; cases v <;> kernel_rfl
theorem p_prod_m {S:Fns}:Mono (p_prod_st S):=fun _ _ _ hl v=>by cases v <;> (dsimp only [p_prod_st]; repeat' first | exact id | exact hl _ | apply imp_an | apply imp_cnd | (refine imp_bn fun _=>?_) | apply imp_fl | (refine imp_gcas ?_ ?_ fun _ _=>?_))
def p_prod_raw (S:Fns) (n:Nat) (s0:B74):Option (D × B74):=rawN enc25 (p_prod_st S) n (.e s0)
theorem p_prod_ok {S:Fns} (hS:FnsOk S) (n:Nat):EntryOk Tryz.prog (e25 149 26 (p_prod_raw S n)):=e25_ok fun _ _ hr=>gen_e prog_ok Tryz.func149 rfl hS (p_prod_k S) p_prod_m rfl rfl hr
inductive p_names_V where
  | e (s0:B74)
  | l0 (y0:List D) (y1:B74)
  | l1 (y0:List D) (y1:B74) (y2:Nat)
def p_names_at:p_names_V → Pth × List AV × Heap
  | .e s0=>([],startT Tryz.f72 [.ptr (some (0,0))],[b74 s0 0])
  | .l0 y0 y1=>([0,0,1,1],mkT 15 [(0,.ptr (some (0,0))),(3,.own .full y0)],[some (o74 y1 0)])
  | .l1 y0 y1 y2=>([0,0,1,1],mkT 15 [(0,.ptr (some (0,0))),(3,.own (.tip 1) y0)],[some (o74 y1 0),some (.tip 9 y2 1)])
def p_names_st (S:Fns) (r:D × B74 → Prop) (l:p_names_V → Prop):p_names_V → Prop
  | .e s0=>bn (S.p_name s0) fun x5=>l (.l0 [.str x5.1] x5.2)
  | .l0 y0 y1=>bn (S.p_take y1 [44]) fun x6=>cnd x6.1 (bn (S.p_name x6.2) fun x7=>an (sized 1 y0) (an (roomOk (y0.length + 1) 16) (l (.l1 (y0 ++ [D.str x7.1]) x7.2 (y0.length + 1))))) (r ((.slice y0),x6.2))
  | .l1 y0 y1 y2=>bn (S.p_take y1 [44]) fun x8=>cnd x8.1 (bn (S.p_name x8.2) fun x9=>an (y2 == y0.length) (an (roomOk (y2 + 1) 16) (l (.l1 (y0 ++ [D.str x9.1]) x9.2 (y2 + 1))))) (r ((.slice y0),x8.2))
theorem p_names_k (S:Fns):KOk Tryz.prog [] 72 Tryz.f72 (enAll S) [([0,0,1,1],[(1,2),(4,11)],false)] 1 p_names_at enc24 (p_names_st S):=by intro K g v; cases v <;> kernel_rfl
theorem p_names_m {S:Fns}:Mono (p_names_st S):=fun _ _ _ hl v=>by cases v <;> (dsimp only [p_names_st]; repeat' first | exact id | exact hl _ | apply imp_an | apply imp_cnd | (refine imp_bn fun _=>?_) | apply imp_fl | (refine imp_gcas ?_ ?_ fun _ _=>?_))
def p_names_raw (S:Fns) (n:Nat) (s0:B74):Option (D × B74):=rawN enc24 (p_names_st S) n (.e s0)
theorem p_names_ok {S:Fns} (hS:FnsOk S) (n:Nat):EntryOk Tryz.prog (e24 72 (p_names_raw S n)):=e24_ok fun _ _ hr=>gen_e prog_ok Tryz.func72 rfl hS (p_names_k S) p_names_m rfl rfl hr
inductive p_and_V where
  | e (s0:B74)
  | l0 (y0:B74) (y1:D) (y2:Nat)
def p_and_at:p_and_V → Pth × List AV × Heap
  | .e s0=>([],startT Tryz.f53 [.ptr (some (0,0))],[b74 s0 0])
  | .l0 y0 y1 y2=>([0,0,1,1],mkT 13 [(0,.ptr (some (0,0))),(2,.ptr (some (1,0))),(3,.ptr (some (2,0)))],[some (o74 y0 0),some (.cells 26 [.dat (.int .i64 0),.dat (.int .i64 0),.dat (.str []),.dat (.str []),.dat .nils,.dat .nils] 0),some (sbx 26 y1 y2)])
def p_and_st (S:Fns) (r:D × B74 → Prop) (l:p_and_V → Prop):p_and_V → Prop
  | .e s0=>bn (S.p_not s0) fun x7=>an (okG 26 x7.1) (fl x7.1 [4,5] (l (.l0 x7.2 x7.1 6)))
  | .l0 y0 y1 y2=>bn (S.p_take y0 [97,110,100]) fun x8=>cnd x8.1 (bn (S.p_not x8.2) fun x9=>an (okG 26 x9.1) (an (okG 26 (G 26 y1)) (an (okG 26 (G 26 x9.1)) (bn (S.r_bin [97,110,100] (G 26 y1) (G 26 x9.1)) fun x10=>an (okG 26 x10) (fl x10 [4,5] (l (.l0 x9.2 x10 (y2 + 6)))))))) (fl y1 [4,5] (r ((G 26 y1),x8.2)))
theorem p_and_k (S:Fns):KOk Tryz.prog [] 53 Tryz.f53 (enAll S) [([0,0,1,1],[(1,1),(4,9)],false)] 1 p_and_at enc25 (p_and_st S):=by intro K g v; cases v <;> kernel_rfl
theorem p_and_m {S:Fns}:Mono (p_and_st S):=fun _ _ _ hl v=>by cases v <;> (dsimp only [p_and_st]; repeat' first | exact id | exact hl _ | apply imp_an | apply imp_cnd | (refine imp_bn fun _=>?_) | apply imp_fl | (refine imp_gcas ?_ ?_ fun _ _=>?_))
def p_and_raw (S:Fns) (n:Nat) (s0:B74):Option (D × B74):=rawN enc25 (p_and_st S) n (.e s0)
theorem p_and_ok {S:Fns} (hS:FnsOk S) (n:Nat):EntryOk Tryz.prog (e25 53 26 (p_and_raw S n)):=e25_ok fun _ _ hr=>gen_e prog_ok Tryz.func53 rfl hS (p_and_k S) p_and_m rfl rfl hr
inductive s_readE_V where
  | e (a0:List UInt8) (a1:Int)
def s_readE_at:s_readE_V → Pth × List AV × Heap
  | .e a0 a1=>([],startT Tryz.f20 [.dat (.str a0),.dat (.int .i64 a1),.func (.func 21) [] []],[])
def s_readE_st (S:Fns) (r:D × Int × Int → Prop) (l:s_readE_V → Prop):s_readE_V → Prop
  | .e a0 a1=>bn (S.t_Scan a0) fun x4=>cnd (x4.2.2 != 0) (r ((.agg [.int .i64 0,.int .i64 0,.str [],.str [],.nils,.nils]),x4.2.1,x4.2.2)) (an x4.1.flat (bn (S.s_Expr1 (B105.mk x4.1 0 a1 0 0)) fun x5=>an (okG 26 x5.1) (fl x5.1 [4,5] (bn (S.s_now x5.2) fun x6=>an (okG 107 x6.1) (cnd (cI x6.1 0 != 0) (bn (S.s_fail x6.2 10) fun x7=>cnd (x7.c4 != 0) (r ((.agg [.int .i64 0,.int .i64 0,.str [],.str [],.nils,.nils]),x7.c3,x7.c4)) (fl x5.1 [4,5] (r ((G 26 x5.1),0,0)))) (cnd (x6.2.c4 != 0) (r ((.agg [.int .i64 0,.int .i64 0,.str [],.str [],.nils,.nils]),x6.2.c3,x6.2.c4)) (fl x5.1 [4,5] (r ((G 26 x5.1),0,0)))))))))
theorem s_readE_k (S:Fns):KOk Tryz.prog [] 20 Tryz.f20 (enAll S) [] 0 s_readE_at enc16 (s_readE_st S):=by intro K g v; cases v <;> kernel_rfl
def s_readE_raw (S:Fns) (n:Nat) (a0:List UInt8) (a1:Int):Option (D × Int × Int):=rawN enc16 (s_readE_st S) n (.e a0 a1)
theorem s_readE_ok {S:Fns} (hS:FnsOk S) (n:Nat):EntryOk Tryz.prog (e16 20 21 26 (s_readE_raw S n)):=e16_ok fun _ _ _ hr=>gen_e prog_ok Tryz.func20 rfl hS (s_readE_k S) (fun _ _ _ _ v=>by cases v <;> exact id) rfl rfl hr
inductive p_name_V where
  | e (s0:B74)
def p_name_at:p_name_V → Pth × List AV × Heap
  | .e s0=>([],startT Tryz.f73 [.ptr (some (0,0))],[b74 s0 0])
def p_name_st (S:Fns) (r:List UInt8 × B74 → Prop) (l:p_name_V → Prop):p_name_V → Prop
  | .e s0=>cnd (s0.c4 != 0) (bn (S.p_bad s0 10) fun x10=>r ([],x10)) (bn (asL s0.c0) fun x11=>bn (atD x11 s0.c1) fun x12=>an (okG 107 x12) (cnd (cI x12 0 != 1) (bn (S.p_bad s0 10) fun x13=>r ([],x13)) (bn (asL s0.c0) fun x14=>bn (atD x14 s0.c1) fun x15=>an (okG 107 x15) (bn (S.k_Word (cS x15 1)) fun x16=>cnd x16 (bn (S.p_bad s0 10) fun x17=>r ([],x17)) (bn (asL s0.c0) fun x18=>bn (atD x18 (IntKind.i64.wrap (IntKind.i64.wrap (s0.c1 + 1) - 1))) fun x19=>an (okG 107 x19) (r ((cS x19 1),(B74.mk s0.c0 (IntKind.i64.wrap (s0.c1 + 1)) s0.c2 s0.c3 s0.c4))))))))
theorem p_name_k (S:Fns):KOk Tryz.prog [] 73 Tryz.f73 (enAll S) [] 1 p_name_at enc22 (p_name_st S):=by intro K g v; cases v <;> kernel_rfl
def p_name_raw (S:Fns) (n:Nat) (s0:B74):Option (List UInt8 × B74):=rawN enc22 (p_name_st S) n (.e s0)
theorem p_name_ok {S:Fns} (hS:FnsOk S) (n:Nat):EntryOk Tryz.prog (e22 73 (p_name_raw S n)):=e22_ok fun _ _ hr=>gen_e prog_ok Tryz.func73 rfl hS (p_name_k S) (fun _ _ _ _ v=>by cases v <;> exact id) rfl rfl hr
inductive s_inner_not_V where
  | e (s0:B105) (a1:Int)
def s_inner_not_at:s_inner_not_V → Pth × List AV × Heap
  | .e s0 a1=>([],startT Tryz.f80 [.ptr (some (0,0)),.dat (.int .i64 a1),.func (.func 48) [.ptr (some (0,0))] []],[b105 s0 0])
def s_inner_not_st (S:Fns) (r:D × B105 → Prop) (l:s_inner_not_V → Prop):s_inner_not_V → Prop
  | .e s0 a1=>bn (S.s_enter s0) fun x3=>cnd (!x3.1) (r ((.agg [.int .i64 0,.int .i64 0,.str [],.str [],.nils,.nils]),x3.2)) (bn (S.s_not x3.2) fun x4=>an (okG 26 x4.1) (bn (S.s_leave x4.2) fun x5=>r ((.agg [.int .i64 a1,.int .i64 0,.str [],.str [],D.slice [G 26 x4.1],.nils]),x5)))
theorem s_inner_not_k (S:Fns):KOk Tryz.prog [] 80 Tryz.f80 (enAll S) [] 1 s_inner_not_at enc13 (s_inner_not_st S):=by intro K g v; cases v <;> kernel_rfl
def s_inner_not_raw (S:Fns) (n:Nat) (s0:B105) (a1:Int):Option (D × B105):=rawN enc13 (s_inner_not_st S) n (.e s0 a1)
theorem s_inner_not_ok {S:Fns} (hS:FnsOk S) (n:Nat):EntryOk Tryz.prog (e13 80 48 26 (s_inner_not_raw S n)):=e13_ok fun _ _ _ hr=>gen_e prog_ok Tryz.func80 rfl hS (s_inner_not_k S) (fun _ _ _ _ v=>by cases v <;> exact id) rfl rfl hr
inductive p_int_V where
  | e (s0:B74)
def p_int_at:p_int_V → Pth × List AV × Heap
  | .e s0=>([],startT Tryz.f75 [.ptr (some (0,0))],[b74 s0 0])
def p_int_st (S:Fns) (r:Int × B74 → Prop) (l:p_int_V → Prop):p_int_V → Prop
  | .e s0=>cnd (s0.c4 != 0) (bn (S.p_bad s0 10) fun x6=>r (0,x6)) (bn (asL s0.c0) fun x7=>bn (atD x7 s0.c1) fun x8=>an (okG 107 x8) (cnd (cI x8 0 != 2) (bn (S.p_bad s0 10) fun x9=>r (0,x9)) (bn (asL s0.c0) fun x10=>bn (atD x10 (IntKind.i64.wrap (IntKind.i64.wrap (s0.c1 + 1) - 1))) fun x11=>an (okG 107 x11) (r ((cI x11 2),(B74.mk s0.c0 (IntKind.i64.wrap (s0.c1 + 1)) s0.c2 s0.c3 s0.c4))))))
theorem p_int_k (S:Fns):KOk Tryz.prog [] 75 Tryz.f75 (enAll S) [] 1 p_int_at enc23 (p_int_st S):=by intro K g v; cases v <;> kernel_rfl
def p_int_raw (S:Fns) (n:Nat) (s0:B74):Option (Int × B74):=rawN enc23 (p_int_st S) n (.e s0)
theorem p_int_ok {S:Fns} (hS:FnsOk S) (n:Nat):EntryOk Tryz.prog (e23 75 (p_int_raw S n)):=e23_ok fun _ _ hr=>gen_e prog_ok Tryz.func75 rfl hS (p_int_k S) (fun _ _ _ _ v=>by cases v <;> exact id) rfl rfl hr
inductive s_expr_V where
  | e (s0:B105)
def s_expr_at:s_expr_V → Pth × List AV × Heap
  | .e s0=>([],startT Tryz.f22 [.ptr (some (0,0))],[b105 s0 0])
def s_expr_st (S:Fns) (r:D × B105 → Prop) (l:s_expr_V → Prop):s_expr_V → Prop
  | .e s0=>bn (S.s_enter s0) fun x3=>cnd (!x3.1) (r ((.agg [.int .i64 0,.int .i64 0,.str [],.str [],.nils,.nils]),x3.2)) (bn (S.s_left_or x3.2 (.slice [.str [111,114]])) fun x4=>an (okG 26 x4.1) (fl x4.1 [4,5] (bn (S.s_leave x4.2) fun x5=>fl x4.1 [4,5] (r ((G 26 x4.1),x5)))))
theorem s_expr_k (S:Fns):KOk Tryz.prog [] 22 Tryz.f22 (enAll S) [] 1 s_expr_at enc0 (s_expr_st S):=by intro K g v; cases v <;> kernel_rfl
def s_expr_raw (S:Fns) (n:Nat) (s0:B105):Option (D × B105):=rawN enc0 (s_expr_st S) n (.e s0)
theorem s_expr_ok {S:Fns} (hS:FnsOk S) (n:Nat):EntryOk Tryz.prog (e0 22 26 (s_expr_raw S n)):=e0_ok fun _ _ hr=>gen_e prog_ok Tryz.func22 rfl hS (s_expr_k S) (fun _ _ _ _ v=>by cases v <;> exact id) rfl rfl hr
inductive k_letter_V where
  | e (a0:Int)
def k_letter_at:k_letter_V → Pth × List AV × Heap
  | .e a0=>([],startT Tryz.f117 [.dat (.int .u8 a0)],[])
def k_letter_st (S:Fns) (r:Bool → Prop) (l:k_letter_V → Prop):k_letter_V → Prop
  | .e a0=>cnd (decide (a0 ≥ 97)) (cnd (decide (a0 ≤ 122)) (r true) (cnd (decide (a0 ≥ 65)) (cnd (decide (a0 ≤ 90)) (r true) (r (a0 == 95))) (r (a0 == 95)))) (cnd (decide (a0 ≥ 65)) (cnd (decide (a0 ≤ 90)) (r true) (r (a0 == 95))) (r (a0 == 95)))
theorem k_letter_k (S:Fns):KOk Tryz.prog [] 117 Tryz.f117 (enAll S) [] 0 k_letter_at enc32 (k_letter_st S):=by intro K g v; cases v <;> kernel_rfl
def k_letter_raw (S:Fns) (n:Nat) (a0:Int):Option (Bool):=rawN enc32 (k_letter_st S) n (.e a0)
theorem k_letter_ok {S:Fns} (hS:FnsOk S) (n:Nat):EntryOk Tryz.prog (e32 117 (k_letter_raw S n)):=e32_ok fun _ _ hr=>gen_e prog_ok Tryz.func117 rfl hS (k_letter_k S) (fun _ _ _ _ v=>by cases v <;> exact id) rfl rfl hr
inductive s_not_V where
  | e (s0:B105)
def s_not_at:s_not_V → Pth × List AV × Heap
  | .e s0=>([],startT Tryz.f48 [.ptr (some (0,0))],[b105 s0 0])
def s_not_st (S:Fns) (r:D × B105 → Prop) (l:s_not_V → Prop):s_not_V → Prop
  | .e s0=>bn (S.s_word s0 [110,111,116]) fun x3=>cnd x3.1 (bn (S.s_inner_not x3.2 8) fun x4=>an (okG 26 x4.1) (fl x4.1 [4,5] (r ((G 26 x4.1),x4.2)))) (bn (S.s_compared x3.2) fun x5=>an (okG 26 x5.1) (fl x5.1 [4,5] (r ((G 26 x5.1),x5.2))))
theorem s_not_k (S:Fns):KOk Tryz.prog [] 48 Tryz.f48 (enAll S) [] 1 s_not_at enc0 (s_not_st S):=by intro K g v; cases v <;> kernel_rfl
def s_not_raw (S:Fns) (n:Nat) (s0:B105):Option (D × B105):=rawN enc0 (s_not_st S) n (.e s0)
theorem s_not_ok {S:Fns} (hS:FnsOk S) (n:Nat):EntryOk Tryz.prog (e0 48 26 (s_not_raw S n)):=e0_ok fun _ _ hr=>gen_e prog_ok Tryz.func48 rfl hS (s_not_k S) (fun _ _ _ _ v=>by cases v <;> exact id) rfl rfl hr
inductive s_name_V where
  | e (s0:B105)
def s_name_at:s_name_V → Pth × List AV × Heap
  | .e s0=>([],startT Tryz.f66 [.ptr (some (0,0))],[b105 s0 0])
def s_name_st (S:Fns) (r:List UInt8 × B105 → Prop) (l:s_name_V → Prop):s_name_V → Prop
  | .e s0=>bn (S.s_named s0) fun x4=>cnd (!x4.1) (bn (S.s_fail x4.2 10) fun x5=>r ([],x5)) (bn (S.s_now x4.2) fun x6=>an (okG 107 x6.1) (bn (S.s_next x6.2) fun x7=>r ((cS x6.1 1),x7)))
theorem s_name_k (S:Fns):KOk Tryz.prog [] 66 Tryz.f66 (enAll S) [] 1 s_name_at enc7 (s_name_st S):=by intro K g v; cases v <;> kernel_rfl
def s_name_raw (S:Fns) (n:Nat) (s0:B105):Option (List UInt8 × B105):=rawN enc7 (s_name_st S) n (.e s0)
theorem s_name_ok {S:Fns} (hS:FnsOk S) (n:Nat):EntryOk Tryz.prog (e7 66 (s_name_raw S n)):=e7_ok fun _ _ hr=>gen_e prog_ok Tryz.func66 rfl hS (s_name_k S) (fun _ _ _ _ v=>by cases v <;> exact id) rfl rfl hr
inductive p_bad_V where
  | e (s0:B74) (a1:Int)
def p_bad_at:p_bad_V → Pth × List AV × Heap
  | .e s0 a1=>([],startT Tryz.f56 [.ptr (some (0,0)),.dat (.int .i64 a1)],[b74 s0 0])
def p_bad_st (S:Fns) (r:B74 → Prop) (l:p_bad_V → Prop):p_bad_V → Prop
  | .e s0 a1=>cnd (s0.c4 == 0) (bn (asL s0.c0) fun x2=>bn (atD x2 s0.c1) fun x3=>an (okG 107 x3) (r (B74.mk s0.c0 s0.c1 s0.c2 (cI x3 3) a1))) (r s0)
theorem p_bad_k (S:Fns):KOk Tryz.prog [] 56 Tryz.f56 (enAll S) [] 1 p_bad_at enc18 (p_bad_st S):=by intro K g v; cases v <;> kernel_rfl
def p_bad_raw (S:Fns) (n:Nat) (s0:B74) (a1:Int):Option (B74):=rawN enc18 (p_bad_st S) n (.e s0 a1)
theorem p_bad_ok {S:Fns} (hS:FnsOk S) (n:Nat):EntryOk Tryz.prog (e18 56 (p_bad_raw S n)):=e18_ok fun _ _ _ hr=>gen_e prog_ok Tryz.func56 rfl hS (p_bad_k S) (fun _ _ _ _ v=>by cases v <;> exact id) rfl rfl hr
inductive s_bin_V where
  | e (a0:List UInt8) (a1:D) (a2:D)
def s_bin_at:s_bin_V → Pth × List AV × Heap
  | .e a0 a1 a2=>([],startT Tryz.f79 [.dat (.str a0),.dat (G 26 a1),.dat (G 26 a2)],[])
def s_bin_st (S:Fns) (r:D → Prop) (l:s_bin_V → Prop):s_bin_V → Prop
  | .e a0 a1 a2=>r (.agg [.int .i64 10,.int .i64 0,.str a0,.str [],D.slice [G 26 a1,G 26 a2],.nils])
theorem s_bin_k (S:Fns):KOk Tryz.prog [] 79 Tryz.f79 (enAll S) [] 0 s_bin_at enc9 (s_bin_st S):=by intro K g v; cases v <;> kernel_rfl
def s_bin_raw (S:Fns) (n:Nat) (a0:List UInt8) (a1:D) (a2:D):Option (D):=rawN enc9 (s_bin_st S) n (.e a0 a1 a2)
theorem s_bin_ok {S:Fns} (hS:FnsOk S) (n:Nat):EntryOk Tryz.prog (e9 79 26 26 26 (s_bin_raw S n)):=e9_ok fun _ _ _ _ hr=>gen_e prog_ok Tryz.func79 rfl hS (s_bin_k S) (fun _ _ _ _ v=>by cases v <;> exact id) rfl rfl hr
inductive p_must_V where
  | e (s0:B74) (a1:List UInt8)
def p_must_at:p_must_V → Pth × List AV × Heap
  | .e s0 a1=>([],startT Tryz.f60 [.ptr (some (0,0)),.dat (.str a1)],[b74 s0 0])
def p_must_st (S:Fns) (r:B74 → Prop) (l:p_must_V → Prop):p_must_V → Prop
  | .e s0 a1=>bn (S.p_take s0 a1) fun x2=>cnd (!x2.1) (bn (S.p_bad x2.2 10) fun x3=>r x3) (r x2.2)
theorem p_must_k (S:Fns):KOk Tryz.prog [] 60 Tryz.f60 (enAll S) [] 1 p_must_at enc20 (p_must_st S):=by intro K g v; cases v <;> kernel_rfl
def p_must_raw (S:Fns) (n:Nat) (s0:B74) (a1:List UInt8):Option (B74):=rawN enc20 (p_must_st S) n (.e s0 a1)
theorem p_must_ok {S:Fns} (hS:FnsOk S) (n:Nat):EntryOk Tryz.prog (e20 60 (p_must_raw S n)):=e20_ok fun _ _ _ hr=>gen_e prog_ok Tryz.func60 rfl hS (p_must_k S) (fun _ _ _ _ v=>by cases v <;> exact id) rfl rfl hr
inductive s_Expr1_V where
  | e (s0:B105)
def s_Expr1_at:s_Expr1_V → Pth × List AV × Heap
  | .e s0=>([],startT Tryz.f21 [.ptr (some (0,0))],[b105 s0 0])
def s_Expr1_st (S:Fns) (r:D × B105 → Prop) (l:s_Expr1_V → Prop):s_Expr1_V → Prop
  | .e s0=>bn (S.s_expr s0) fun x1=>an (okG 26 x1.1) (fl x1.1 [4,5] (r ((G 26 x1.1),x1.2)))
theorem s_Expr1_k (S:Fns):KOk Tryz.prog [] 21 Tryz.f21 (enAll S) [] 1 s_Expr1_at enc0 (s_Expr1_st S):=by intro K g v; cases v <;> kernel_rfl
def s_Expr1_raw (S:Fns) (n:Nat) (s0:B105):Option (D × B105):=rawN enc0 (s_Expr1_st S) n (.e s0)
theorem s_Expr1_ok {S:Fns} (hS:FnsOk S) (n:Nat):EntryOk Tryz.prog (e0 21 26 (s_Expr1_raw S n)):=e0_ok fun _ _ hr=>gen_e prog_ok Tryz.func21 rfl hS (s_Expr1_k S) (fun _ _ _ _ v=>by cases v <;> exact id) rfl rfl hr
inductive s_now_V where
  | e (s0:B105)
def s_now_at:s_now_V → Pth × List AV × Heap
  | .e s0=>([],startT Tryz.f43 [.ptr (some (0,0))],[b105 s0 0])
def s_now_st (S:Fns) (r:D × B105 → Prop) (l:s_now_V → Prop):s_now_V → Prop
  | .e s0=>bn (asL s0.c0) fun x2=>bn (atD x2 s0.c1) fun x3=>an (okG 107 x3) (r ((G 107 x3),s0))
theorem s_now_k (S:Fns):KOk Tryz.prog [] 43 Tryz.f43 (enAll S) [] 1 s_now_at enc0 (s_now_st S):=by intro K g v; cases v <;> kernel_rfl
def s_now_raw (S:Fns) (n:Nat) (s0:B105):Option (D × B105):=rawN enc0 (s_now_st S) n (.e s0)
theorem s_now_ok {S:Fns} (hS:FnsOk S) (n:Nat):EntryOk Tryz.prog (e0 43 107 (s_now_raw S n)):=e0_ok fun _ _ hr=>gen_e prog_ok Tryz.func43 rfl hS (s_now_k S) (fun _ _ _ _ v=>by cases v <;> exact id) rfl rfl hr
end
end Go.Proofs.YtfdcjngclelnhaaGreat
