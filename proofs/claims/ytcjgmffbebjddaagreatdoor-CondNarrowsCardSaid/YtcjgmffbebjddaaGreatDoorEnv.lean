/- The engine's tables of this seat, written by a program. -/
import Derived.Test.YtcjgmffbebjddaaGreatDoorProg
import Derived.Test.YtcjgmffbebjddaaGreatDoorEng
import GoSem.PinnedTables
set_option linter.all false
namespace Go.Proofs.YtcjgmffbebjddaaGreatDoor
open Go Go.Eng

noncomputable def funOf (F : Func) : Fun := { ntmps := F.ntmps, nparams := F.params.size + F.nfree, results := F.results.toList, body := F.body.getD .skip }

noncomputable def fnL : List (FuncId × Func) := [
  (3, Tryz.f3),
  (4, Tryz.f4),
  (5, Tryz.f5),
  (6, Tryz.f6),
  (7, Tryz.f7),
  (8, Tryz.f8),
  (9, Tryz.f9),
  (10, Tryz.f10),
  (11, Tryz.f11),
  (12, Tryz.f12),
  (13, Tryz.f13),
  (14, Tryz.f14),
  (15, Tryz.f15),
  (16, Tryz.f16),
  (17, Tryz.f17),
  (18, Tryz.f18),
  (19, Tryz.f19),
  (20, Tryz.f20),
  (21, Tryz.f21),
  (22, Tryz.f22),
  (23, Tryz.f23),
  (24, Tryz.f24),
  (25, Tryz.f25),
  (26, Tryz.f26),
  (27, Tryz.f27),
  (28, Tryz.f28),
  (29, Tryz.f29),
  (30, Tryz.f30),
  (31, Tryz.f31),
  (32, Tryz.f32),
  (33, Tryz.f33),
  (34, Tryz.f34),
  (35, Tryz.f35),
  (36, Tryz.f36),
  (37, Tryz.f37),
  (38, Tryz.f38),
  (39, Tryz.f39),
  (40, Tryz.f40),
  (41, Tryz.f41),
  (42, Tryz.f42),
  (43, Tryz.f43),
  (44, Tryz.f44),
  (45, Tryz.f45),
  (46, Tryz.f46),
  (47, Tryz.f47),
  (48, Tryz.f48),
  (49, Tryz.f49),
  (50, Tryz.f50),
  (51, Tryz.f51),
  (52, Tryz.f52),
  (53, Tryz.f53),
  (54, Tryz.f54),
  (55, Tryz.f55),
  (56, Tryz.f56),
  (57, Tryz.f57),
  (58, Tryz.f58),
  (59, Tryz.f59),
  (60, Tryz.f60),
  (61, Tryz.f61),
  (62, Tryz.f62),
  (63, Tryz.f63),
  (64, Tryz.f64),
  (65, Tryz.f65),
  (66, Tryz.f66),
  (67, Tryz.f67),
  (68, Tryz.f68),
  (69, Tryz.f69),
  (70, Tryz.f70),
  (71, Tryz.f71),
  (72, Tryz.f72),
  (73, Tryz.f73),
  (74, Tryz.f74),
  (75, Tryz.f75),
  (76, Tryz.f76),
  (77, Tryz.f77),
  (78, Tryz.f78),
  (79, Tryz.f79),
  (80, Tryz.f80),
  (81, Tryz.f81),
  (82, Tryz.f82),
  (83, Tryz.f83),
  (84, Tryz.f84),
  (85, Tryz.f85),
  (86, Tryz.f86),
  (87, Tryz.f87),
  (88, Tryz.f88),
  (89, Tryz.f89),
  (90, Tryz.f90),
  (91, Tryz.f91),
  (92, Tryz.f92),
  (93, Tryz.f93),
  (94, Tryz.f94),
  (95, Tryz.f95),
  (96, Tryz.f96),
  (97, Tryz.f97),
  (98, Tryz.f98),
  (99, Tryz.f99),
  (100, Tryz.f100),
  (101, Tryz.f101),
  (102, Tryz.f102),
  (103, Tryz.f103),
  (104, Tryz.f104),
  (105, Tryz.f105),
  (106, Tryz.f106),
  (107, Tryz.f107),
  (108, Tryz.f108),
  (109, Tryz.f109),
  (110, Tryz.f110),
  (111, Tryz.f111),
  (112, Tryz.f112),
  (113, Tryz.f113),
  (114, Tryz.f114),
  (115, Tryz.f115),
  (116, Tryz.f116),
  (117, Tryz.f117),
  (118, Tryz.f118),
  (119, Tryz.f119),
  (120, Tryz.f120),
  (121, Tryz.f121),
  (122, Tryz.f122),
  (123, Tryz.f123),
  (124, Tryz.f124),
  (125, Tryz.f125),
  (126, Tryz.f126),
  (127, Tryz.f127),
  (128, Tryz.f128),
  (129, Tryz.f129),
  (130, Tryz.f130),
  (131, Tryz.f131),
  (132, Tryz.f132),
  (133, Tryz.f133),
  (134, Tryz.f134),
  (135, Tryz.f135),
  (136, Tryz.f136),
  (137, Tryz.f137),
  (138, Tryz.f138),
  (139, Tryz.f139),
  (140, Tryz.f140),
  (141, Tryz.f141),
  (142, Tryz.f142),
  (143, Tryz.f143),
  (144, Tryz.f144),
  (145, Tryz.f145),
  (146, Tryz.f146),
  (147, Tryz.f147),
  (148, Tryz.f148),
  (149, Tryz.f149),
  (150, Tryz.f150),
  (151, Tryz.f151),
  (152, Tryz.f152),
  (153, Tryz.f153),
  (154, Tryz.f154),
  (155, Tryz.f155),
  (156, Tryz.f156),
  (157, Tryz.f157),
  (158, Tryz.f158),
  (159, Tryz.f159),
  (160, Tryz.f160),
  (161, Tryz.f161),
  (162, Tryz.f162),
  (163, Tryz.f163),
  (164, Tryz.f164),
  (165, Tryz.f165),
  (166, Tryz.f166),
  (167, Tryz.f167),
  (168, Tryz.f168),
  (169, Tryz.f169),
  (170, Tryz.f170),
  (171, Tryz.f171),
  (172, Tryz.f172),
  (173, Tryz.f173),
  (174, Tryz.f174),
  (175, Tryz.f175),
  (176, Tryz.f176),
  (177, Tryz.f177),
  (178, Tryz.f178),
  (180, Tryz.f180),
  (181, Tryz.f181),
  (182, Tryz.f182),
  (183, Tryz.f183),
  (184, Tryz.f184),
  (187, Tryz.f187),
  (188, Tryz.f188),
  (189, Tryz.f189),
  (190, Tryz.f190),
  (191, Tryz.f191),
  (192, Tryz.f192),
  (193, Tryz.f193),
  (194, Tryz.f194),
  (195, Tryz.f195),
  (196, Tryz.f196),
  (197, Tryz.f197),
  (198, Tryz.f198),
  (199, Tryz.f199),
  (200, Tryz.f200),
  (201, Tryz.f201),
  (203, Tryz.f203),
  (204, Tryz.f204),
  (205, Tryz.f205),
  (206, Tryz.f206),
  (207, Tryz.f207),
  (208, Tryz.f208),
  (209, Tryz.f209),
  (210, Tryz.f210),
  (211, Tryz.f211),
  (212, Tryz.f212),
  (213, Tryz.f213),
  (214, Tryz.f214),
  (215, Tryz.f215),
  (216, Tryz.f216),
  (217, Tryz.f217),
  (219, Tryz.f219),
  (220, Tryz.f220),
  (221, Tryz.f221),
  (222, Tryz.f222),
  (223, Tryz.f223),
  (224, Tryz.f224),
  (225, Tryz.f225),
  (226, Tryz.f226),
  (227, Tryz.f227),
  (228, Tryz.f228),
  (229, Tryz.f229),
  (230, Tryz.f230),
  (231, Tryz.f231),
  (232, Tryz.f232),
  (233, Tryz.f233),
  (234, Tryz.f234),
  (235, Tryz.f235),
  (236, Tryz.f236),
  (237, Tryz.f237),
  (238, Tryz.f238),
  (239, Tryz.f239),
  (240, Tryz.f240),
  (241, Tryz.f241),
  (242, Tryz.f242),
  (243, Tryz.f243)]
noncomputable def fnT (n : FuncId) : Option Fun := (lookupN fnL n).map funOf

noncomputable def ybT (f : FuncId) (i : Nat) : Option Yb := (fnT f).bind fun F => findRange F.ntmps i F.body

noncomputable def glT : Nat → Option (TypeId × List D)
  | 3 => some (207, [.v (.int .u64 1), .v (.int .u64 10), .v (.int .u64 100), .v (.int .u64 1000), .v (.int .u64 10000), .v (.int .u64 100000), .v (.int .u64 1000000), .v (.int .u64 10000000), .v (.int .u64 100000000), .v (.int .u64 1000000000), .v (.int .u64 10000000000), .v (.int .u64 100000000000), .v (.int .u64 1000000000000), .v (.int .u64 10000000000000), .v (.int .u64 100000000000000), .v (.int .u64 1000000000000000), .v (.int .u64 10000000000000000), .v (.int .u64 100000000000000000), .v (.int .u64 1000000000000000000), .v (.int .u64 10000000000000000000)])
  | _ => none

noncomputable def tyL : List (TypeId × Ty) := [
  (2, { size := 1, bytes := 8, agg := false, zero := some [.d (.v (.int .i64 0))], ik := some .i64 }),
  (3, { size := 1, bytes := 8, agg := false, zero := some [.d (.v (.int .i64 0))], ik := some .i64 }),
  (4, { size := 1, bytes := 1, agg := false, zero := some [.d (.v (.bool false))], bl := true, yb := ybT, gl := glT }),
  (5, { size := 1, bytes := 1, agg := false, zero := some [.d (.v (.int .u8 0))], ik := some .u8 }),
  (9, { size := 1, bytes := 16, agg := false, zero := some [.d (.v (.string ⟨#[]⟩))], str := true }),
  (20, { size := 1, bytes := 16, agg := false, zero := some [.d (.v .nilIface)] }),
  (21, { size := 1, bytes := 4, agg := false, zero := some [.d (.v (.int .i32 0))], ik := some .i32 }),
  (22, { size := 1, bytes := 24, agg := false, zero := some [.nils 9], elem := some 9 }),
  (23, { size := 1, bytes := 24, agg := false, zero := some [.nils 3], elem := some 3 }),
  (25, { size := 7, bytes := 112, agg := true, zero := some [.d (.v (.int .i64 0)), .d (.v (.int .i64 0)), .d (.v (.string ⟨#[]⟩)), .nils 9, .nils 9, .nils 3, .d (.v (.int .i64 0))], fields := [(0, 3), (1, 3), (2, 9), (3, 22), (4, 22), (5, 23), (6, 3)] }),
  (28, { size := 1, bytes := 8, agg := false, zero := some [.d (.v (.int .i64 0))], ik := some .i64 }),
  (32, { size := 2, bytes := 16, agg := true, zero := some [.d (.v (.int .i64 0)), .d (.v (.int .i64 0))], fields := [(0, 3), (1, 3)], cmp := true }),
  (34, { size := 6, bytes := 72, agg := true, zero := some [.d (.v (.string ⟨#[]⟩)), .d (.v (.string ⟨#[]⟩)), .d (.v (.string ⟨#[]⟩)), .d (.v (.int .i64 0)), .d (.v (.int .i64 0)), .d (.v (.int .i64 0))], fields := [(0, 9), (1, 9), (2, 9), (3, 3), (4, 32)] }),
  (40, { size := 8, bytes := 120, agg := true, zero := some [.d (.v (.int .i64 0)), .d (.v (.int .i64 0)), .d (.v (.string ⟨#[]⟩)), .nils 9, .nils 9, .nils 3, .d (.v (.int .i64 0)), .d (.v (.int .i64 0))], fields := [(0, 25), (7, 28)] }),
  (43, { size := 2, bytes := 16, agg := true, zero := some [.d (.v (.bool false)), .d (.v (.int .i64 0))], fields := [(0, 4), (1, 28)], cmp := true }),
  (56, { size := 2, bytes := 24, agg := true, zero := some [.d (.v (.string ⟨#[]⟩)), .d (.v (.int .i64 0))], fields := [(0, 9), (1, 28)], cmp := true }),
  (63, { size := 1, bytes := 24, agg := false, zero := some [.nils 4], elem := some 4 }),
  (77, { size := 1, bytes := 8, agg := false, zero := some [.d (.v .nilFunc)] }),
  (80, { size := 1, bytes := 8, agg := false, zero := some [.d (.v .nilFunc)] }),
  (83, { size := 2, bytes := 16, agg := true, zero := some [.d (.v (.bool false)), .d (.v (.int .i64 0))], fields := [(0, 4), (1, 28)], cmp := true }),
  (87, { size := 1, bytes := 8, agg := false, zero := some [.d (.v .nilFunc)] }),
  (90, { size := 1, bytes := 8, agg := false, zero := some [.d (.v .nilFunc)] }),
  (91, { size := 1, bytes := 8, agg := false, zero := some [.d (.v (.pointer none))] }),
  (94, { size := 2, bytes := 32, agg := true, zero := some [.nils 9, .d (.v (.bool false))], fields := [(0, 22), (1, 4)] }),
  (95, { size := 1, bytes := 8, agg := false, zero := some [.d (.v .nilFunc)] }),
  (98, { size := 1, bytes := 8, agg := false, zero := some [.d (.v .nilFunc)] }),
  (102, { size := 1, bytes := 8, agg := false, zero := some [.d (.v .nilFunc)] }),
  (104, { size := 1, bytes := 8, agg := false, zero := some [.d (.v .nilFunc)] }),
  (117, { size := 1, bytes := 8, agg := false, zero := some [.d (.v (.int .i64 0))], ik := some .i64 }),
  (119, { size := 2, bytes := 24, agg := true, zero := some [.d (.v (.int .i64 0)), .d (.v (.string ⟨#[]⟩))], fields := [(0, 117), (1, 9)], cmp := true }),
  (120, { size := 1, bytes := 24, agg := false, zero := some [.nils 119], elem := some 119 }),
  (122, { size := 4, bytes := 56, agg := true, zero := some [.d (.v (.int .i64 0)), .d (.v (.string ⟨#[]⟩)), .nils 119, .d (.v (.bool false))], fields := [(0, 119), (2, 120), (3, 4)] }),
  (131, { size := 1, bytes := 24, agg := false, zero := some [.nils 5], elem := some 5 }),
  (132, { size := 1, bytes := 8, agg := false, zero := some [.d (.v .nilFunc)] }),
  (135, { size := 3, bytes := 32, agg := true, zero := some [.d (.v (.string ⟨#[]⟩)), .d (.v (.bool false)), .d (.v (.int .i64 0))], fields := [(0, 9), (1, 4), (2, 28)], cmp := true }),
  (138, { size := 3, bytes := 48, agg := true, zero := some [.d (.v (.string ⟨#[]⟩)), .nils 9, .d (.v (.bool false))], fields := [(0, 9), (1, 22), (2, 4)] }),
  (143, { size := 1, bytes := 16, agg := false, zero := some [.d (.v .nilIface)] }),
  (146, { size := 1, bytes := 8, agg := false, zero := some [.d (.v (.pointer none))] }),
  (148, { size := 2, bytes := 32, agg := true, zero := some [.d (.v (.pointer none)), .nils 5], fields := [(0, 146), (1, 131)] }),
  (151, { size := 1, bytes := 24, agg := false, zero := some [.nils 183], elem := some 183 }),
  (153, { size := 3, bytes := 64, agg := true, zero := some [.d (.v (.string ⟨#[]⟩)), .nils 9, .nils 183], fields := [(0, 9), (1, 22), (2, 151)] }),
  (157, { size := 2, bytes := 24, agg := true, zero := some [.d (.v (.string ⟨#[]⟩)), .d (.v (.int .i64 0))], fields := [(0, 9), (1, 28)], cmp := true }),
  (162, { size := 4, bytes := 72, agg := true, zero := some [.d (.v (.string ⟨#[]⟩)), .nils 9, .nils 183, .d (.v (.int .i64 0))], fields := [(0, 153), (3, 28)] }),
  (171, { size := 1, bytes := 8, agg := false, zero := some [.d (.v (.pointer none))] }),
  (183, { size := 2, bytes := 32, agg := true, zero := some [.d (.v (.string ⟨#[]⟩)), .d (.v (.string ⟨#[]⟩))], fields := [(0, 9), (1, 9)], cmp := true }),
  (193, { size := 1, bytes := 8, agg := false, zero := some [.d (.v .nilFunc)] }),
  (197, { size := 1, bytes := 8, agg := false, zero := some [.d (.v (.int .i64 0))], ik := some .i64 }),
  (200, { size := 1, bytes := 8, agg := false, zero := some [.d (.v (.pointer none))] }),
  (206, { size := 24, bytes := 24, agg := true, zero := some [.d (.v (.int .u8 0)), .d (.v (.int .u8 0)), .d (.v (.int .u8 0)), .d (.v (.int .u8 0)), .d (.v (.int .u8 0)), .d (.v (.int .u8 0)), .d (.v (.int .u8 0)), .d (.v (.int .u8 0)), .d (.v (.int .u8 0)), .d (.v (.int .u8 0)), .d (.v (.int .u8 0)), .d (.v (.int .u8 0)), .d (.v (.int .u8 0)), .d (.v (.int .u8 0)), .d (.v (.int .u8 0)), .d (.v (.int .u8 0)), .d (.v (.int .u8 0)), .d (.v (.int .u8 0)), .d (.v (.int .u8 0)), .d (.v (.int .u8 0)), .d (.v (.int .u8 0)), .d (.v (.int .u8 0)), .d (.v (.int .u8 0)), .d (.v (.int .u8 0))], arr := some (24, 5) }),
  (207, { size := 1, bytes := 8, agg := false, zero := some [.d (.v (.int .u64 0))], ik := some .u64 }),
  (220, { size := 1, bytes := 8, agg := false, zero := some [.d (.v (.int .u64 0))], ik := some .u64 }),
  (224, { size := 3, bytes := 48, agg := true, zero := some [.d (.v (.string ⟨#[]⟩)), .d (.v (.string ⟨#[]⟩)), .d (.v .nilIface)], fields := [(0, 9), (1, 9), (2, 143)] }),
  (227, { size := 20, bytes := 160, agg := true, zero := some [.d (.v (.int .u64 0)), .d (.v (.int .u64 0)), .d (.v (.int .u64 0)), .d (.v (.int .u64 0)), .d (.v (.int .u64 0)), .d (.v (.int .u64 0)), .d (.v (.int .u64 0)), .d (.v (.int .u64 0)), .d (.v (.int .u64 0)), .d (.v (.int .u64 0)), .d (.v (.int .u64 0)), .d (.v (.int .u64 0)), .d (.v (.int .u64 0)), .d (.v (.int .u64 0)), .d (.v (.int .u64 0)), .d (.v (.int .u64 0)), .d (.v (.int .u64 0)), .d (.v (.int .u64 0)), .d (.v (.int .u64 0)), .d (.v (.int .u64 0))], arr := some (20, 207) }),
  (228, { size := 1, bytes := 4, agg := false, zero := some [.d (.v (.int .u32 0))], ik := some .u32 }),
  (229, { size := 65, bytes := 65, agg := true, arr := some (65, 5) }),
  (235, { size := 256, bytes := 256, agg := true, arr := some (256, 5) }),
  (237, { size := 2, bytes := 2, agg := true, zero := some [.d (.v (.int .u8 0)), .d (.v (.int .u8 0))], fields := [(0, 5), (1, 5)], cmp := true }),
  (238, { size := 32, bytes := 32, agg := true, zero := some [.d (.v (.int .u8 0)), .d (.v (.int .u8 0)), .d (.v (.int .u8 0)), .d (.v (.int .u8 0)), .d (.v (.int .u8 0)), .d (.v (.int .u8 0)), .d (.v (.int .u8 0)), .d (.v (.int .u8 0)), .d (.v (.int .u8 0)), .d (.v (.int .u8 0)), .d (.v (.int .u8 0)), .d (.v (.int .u8 0)), .d (.v (.int .u8 0)), .d (.v (.int .u8 0)), .d (.v (.int .u8 0)), .d (.v (.int .u8 0)), .d (.v (.int .u8 0)), .d (.v (.int .u8 0)), .d (.v (.int .u8 0)), .d (.v (.int .u8 0)), .d (.v (.int .u8 0)), .d (.v (.int .u8 0)), .d (.v (.int .u8 0)), .d (.v (.int .u8 0)), .d (.v (.int .u8 0)), .d (.v (.int .u8 0)), .d (.v (.int .u8 0)), .d (.v (.int .u8 0)), .d (.v (.int .u8 0)), .d (.v (.int .u8 0)), .d (.v (.int .u8 0)), .d (.v (.int .u8 0))], arr := some (16, 237) }),
  (240, { size := 1, bytes := 8, agg := false, zero := some [.d (.v (.pointer none))] }),
  (242, { size := 1, bytes := 16, agg := true, zero := some [.d (.v (.string ⟨#[]⟩))], fields := [(0, 9)], cmp := true }),
  (246, { size := 32, bytes := 32, agg := true, zero := some [.d (.v (.int .u8 0)), .d (.v (.int .u8 0)), .d (.v (.int .u8 0)), .d (.v (.int .u8 0)), .d (.v (.int .u8 0)), .d (.v (.int .u8 0)), .d (.v (.int .u8 0)), .d (.v (.int .u8 0)), .d (.v (.int .u8 0)), .d (.v (.int .u8 0)), .d (.v (.int .u8 0)), .d (.v (.int .u8 0)), .d (.v (.int .u8 0)), .d (.v (.int .u8 0)), .d (.v (.int .u8 0)), .d (.v (.int .u8 0)), .d (.v (.int .u8 0)), .d (.v (.int .u8 0)), .d (.v (.int .u8 0)), .d (.v (.int .u8 0)), .d (.v (.int .u8 0)), .d (.v (.int .u8 0)), .d (.v (.int .u8 0)), .d (.v (.int .u8 0)), .d (.v (.int .u8 0)), .d (.v (.int .u8 0)), .d (.v (.int .u8 0)), .d (.v (.int .u8 0)), .d (.v (.int .u8 0)), .d (.v (.int .u8 0)), .d (.v (.int .u8 0)), .d (.v (.int .u8 0))], arr := some (32, 5) }),
  (247, { size := 64, bytes := 64, agg := true, zero := some [.d (.v (.int .u8 0)), .d (.v (.int .u8 0)), .d (.v (.int .u8 0)), .d (.v (.int .u8 0)), .d (.v (.int .u8 0)), .d (.v (.int .u8 0)), .d (.v (.int .u8 0)), .d (.v (.int .u8 0)), .d (.v (.int .u8 0)), .d (.v (.int .u8 0)), .d (.v (.int .u8 0)), .d (.v (.int .u8 0)), .d (.v (.int .u8 0)), .d (.v (.int .u8 0)), .d (.v (.int .u8 0)), .d (.v (.int .u8 0)), .d (.v (.int .u8 0)), .d (.v (.int .u8 0)), .d (.v (.int .u8 0)), .d (.v (.int .u8 0)), .d (.v (.int .u8 0)), .d (.v (.int .u8 0)), .d (.v (.int .u8 0)), .d (.v (.int .u8 0)), .d (.v (.int .u8 0)), .d (.v (.int .u8 0)), .d (.v (.int .u8 0)), .d (.v (.int .u8 0)), .d (.v (.int .u8 0)), .d (.v (.int .u8 0)), .d (.v (.int .u8 0)), .d (.v (.int .u8 0)), .d (.v (.int .u8 0)), .d (.v (.int .u8 0)), .d (.v (.int .u8 0)), .d (.v (.int .u8 0)), .d (.v (.int .u8 0)), .d (.v (.int .u8 0)), .d (.v (.int .u8 0)), .d (.v (.int .u8 0)), .d (.v (.int .u8 0)), .d (.v (.int .u8 0)), .d (.v (.int .u8 0)), .d (.v (.int .u8 0)), .d (.v (.int .u8 0)), .d (.v (.int .u8 0)), .d (.v (.int .u8 0)), .d (.v (.int .u8 0)), .d (.v (.int .u8 0)), .d (.v (.int .u8 0)), .d (.v (.int .u8 0)), .d (.v (.int .u8 0)), .d (.v (.int .u8 0)), .d (.v (.int .u8 0)), .d (.v (.int .u8 0)), .d (.v (.int .u8 0)), .d (.v (.int .u8 0)), .d (.v (.int .u8 0)), .d (.v (.int .u8 0)), .d (.v (.int .u8 0)), .d (.v (.int .u8 0)), .d (.v (.int .u8 0)), .d (.v (.int .u8 0)), .d (.v (.int .u8 0))], arr := some (64, 5) }),
  (249, { size := 1, bytes := 8, agg := false, zero := some [.d (.v (.int .i64 0))], ik := some .i64 }),
  (255, { size := 1, bytes := 8, agg := false, zero := some [.d (.v (.int .u64 0))], ik := some .u64 }),
  (259, { size := 1, bytes := 8, agg := false, zero := some [.d (.v (.pointer none))] }),
  (261, { size := 1, bytes := 8, agg := false, zero := some [.d (.v (.pointer none))] })]
noncomputable def tyT : TypeId → Option Ty := lookupN tyL

def liveT : FuncId → Nat → List Nat
  | 10, 4 => [1, 3]
  | 10, 9 => [1, 4]
  | 11, 13 => [2, 3, 4, 5, 6, 7, 10, 11, 12, 13, 14]
  | 18, 4 => [2, 3, 5]
  | 18, 9 => [2, 3, 6]
  | 18, 14 => [2, 3, 7]
  | 20, 8 => [5, 6]
  | 21, 9 => [0, 2, 4, 5, 6]
  | 26, 6 => [1, 2, 4, 5]
  | 27, 6 => [1, 3]
  | 27, 11 => [1, 4]
  | 27, 16 => [1, 5]
  | 34, 3 => [3, 6, 7, 8]
  | 40, 15 => [9, 11, 12, 86, 87, 88]
  | 42, 4 => [4, 6, 7]
  | 43, 1 => [0, 3]
  | 44, 1 => [0, 3]
  | 45, 4 => [4, 6, 7]
  | 46, 1 => [0, 3]
  | 48, 7 => [0, 1, 6, 7]
  | 49, 7 => [0, 1, 6, 7]
  | 51, 10 => [4, 5, 7, 9]
  | 52, 2 => [0, 1, 5]
  | 53, 2 => [0, 1, 5]
  | 55, 2 => [0, 1, 2, 9, 10, 11]
  | 58, 2 => [0, 1, 2, 9, 10, 11]
  | 65, 4 => [0, 1, 5, 6, 7]
  | 66, 5 => [0, 3, 4]
  | 69, 12 => [0, 1, 5, 39, 40, 41]
  | 69, 22 => [1, 8, 63, 64, 65]
  | 71, 3 => [1, 5, 8, 9, 10]
  | 72, 3 => [1, 5, 8, 9, 10]
  | 73, 2 => [0, 3]
  | 74, 5 => [0, 3, 4]
  | 78, 2 => [0, 3]
  | 81, 6 => [7, 59, 60, 61]
  | 84, 8 => [5, 7, 8]
  | 85, 2 => [0, 1, 5]
  | 86, 2 => [0, 1, 5]
  | 87, 5 => [0, 1, 5, 6]
  | 90, 5 => [0, 1, 5, 6]
  | 94, 3 => [1, 3, 11, 12, 13]
  | 95, 2 => [0, 1, 7, 8]
  | 97, 6 => [2, 4, 32, 33, 34]
  | 99, 3 => [3, 7, 8, 9]
  | 104, 10 => [4, 6, 8, 10, 11]
  | 105, 6 => [2, 4, 5, 6]
  | 108, 11 => [0, 1, 2, 3, 9, 10]
  | 110, 1 => [0, 5, 6, 7]
  | 116, 4 => [0, 3]
  | 117, 2 => [0, 1, 5]
  | 119, 4 => [1, 29, 30, 31]
  | 127, 2 => [0, 1, 7, 8]
  | 128, 2 => [0, 1, 7, 8]
  | 129, 8 => [3, 4, 51, 52, 53]
  | 136, 1 => [0, 5, 6, 7]
  | 137, 10 => [4, 5, 7, 9]
  | 138, 4 => [0, 1, 5, 6, 7]
  | 143, 6 => [0, 1, 6, 7]
  | 144, 6 => [0, 1, 5]
  | 145, 10 => [5, 6, 47, 48, 49]
  | 152, 3 => [3, 8, 9, 10]
  | 156, 3 => [2, 3, 4]
  | 157, 5 => [2, 3, 4]
  | 157, 12 => [2, 3, 4, 9, 41, 42, 43]
  | 160, 4 => [1, 3, 13, 14, 15]
  | 160, 10 => [3, 6, 24, 25, 26]
  | 162, 2 => [0, 1, 7, 8]
  | 163, 2 => [0, 1, 7, 8]
  | 164, 2 => [0, 1, 7]
  | 165, 3 => [3, 4]
  | 166, 3 => [0, 4, 5]
  | 167, 6 => [4, 5, 6]
  | 176, 15 => [0, 1, 5, 6, 7, 8, 9, 10]
  | 177, 2 => [2, 4]
  | 189, 1 => [0, 1, 4]
  | 190, 11 => [0, 1, 3, 4, 10, 11, 12, 13, 14, 15, 16]
  | 190, 18 => [0, 1, 3, 4, 10, 11, 12, 13, 17]
  | 196, 4 => [1, 3]
  | 196, 9 => [1, 4]
  | 197, 3 => [1, 3, 4]
  | 197, 7 => [1, 3, 5]
  | 198, 4 => [0, 3, 5, 6, 7]
  | 204, 5 => [0, 1, 5, 6, 7, 8, 9]
  | 204, 11 => [0, 1, 5, 6, 7, 8, 10]
  | 206, 36 => [1, 8, 9, 10, 11, 12, 13, 99, 100, 101]
  | 213, 1 => [0, 2]
  | 213, 5 => [0, 1, 2, 3]
  | 216, 1 => [0, 5]
  | 217, 2 => [1, 2, 10]
  | 219, 3 => [0, 4, 5]
  | 219, 8 => [4, 6, 7, 8]
  | 221, 10 => [0, 3, 4, 5]
  | 224, 2 => [2]
  | 225, 2 => [0, 1, 2, 3, 8, 9]
  | 227, 1 => [0, 1, 2, 6]
  | 227, 4 => [0, 1, 2, 6, 7]
  | 228, 4 => [0, 6, 7, 8, 9]
  | 228, 8 => [0, 6, 7, 10]
  | 229, 5 => [0, 1, 6, 7, 8, 9]
  | 231, 2 => [0, 6, 7]
  | 232, 3 => [0, 1, 2, 7, 8]
  | 232, 5 => [0, 1, 2, 7, 8]
  | 232, 14 => [0, 1, 2, 7, 8, 9]
  | 232, 20 => [0, 1, 2, 7, 8, 10]
  | 234, 3 => [0, 1, 9, 10]
  | 234, 5 => [0, 1, 9, 10]
  | 235, 3 => [0, 1, 10, 11]
  | 235, 5 => [0, 1, 10, 11]
  | 235, 13 => [0, 1, 10, 11]
  | 235, 15 => [0, 1, 10, 11]
  | 237, 1 => [0, 2, 3, 8]
  | _, _ => []

def outT : FuncId → Nat → List Nat
  | 10, 4 => [1, 2]
  | 10, 9 => [2]
  | 11, 13 => [2, 3, 4, 5, 6, 7, 10, 11, 12, 13]
  | 18, 4 => [2, 3, 4]
  | 18, 9 => [2, 3, 4]
  | 18, 14 => [4]
  | 21, 9 => [0, 2, 4]
  | 26, 6 => [1, 2, 4]
  | 27, 6 => [1, 2]
  | 27, 11 => [1, 2]
  | 27, 16 => [1, 2]
  | 34, 3 => [2, 3]
  | 40, 15 => [4, 5, 6]
  | 43, 1 => []
  | 44, 1 => []
  | 46, 1 => []
  | 48, 7 => [6]
  | 49, 7 => [6]
  | 51, 10 => [4]
  | 52, 2 => [4]
  | 53, 2 => [4]
  | 55, 2 => [0, 1, 6]
  | 58, 2 => [0, 1, 6]
  | 65, 4 => [0, 5, 6]
  | 66, 5 => [2, 3]
  | 69, 12 => [0, 1, 5]
  | 69, 22 => [8]
  | 71, 3 => [5]
  | 72, 3 => [5]
  | 73, 2 => [0, 3]
  | 74, 5 => [3]
  | 78, 2 => [2]
  | 81, 6 => [4]
  | 84, 8 => [4]
  | 85, 2 => [4]
  | 86, 2 => [4]
  | 87, 5 => [0, 5]
  | 90, 5 => [0, 5]
  | 94, 3 => [1, 3]
  | 95, 2 => [4]
  | 97, 6 => [2, 3]
  | 99, 3 => [3]
  | 104, 10 => [4, 6, 8, 10]
  | 105, 6 => [2, 3, 5]
  | 108, 11 => [0, 9, 10]
  | 110, 1 => []
  | 116, 4 => [2]
  | 117, 2 => [4]
  | 119, 4 => [1, 2, 3]
  | 127, 2 => [4]
  | 128, 2 => [4]
  | 129, 8 => [4, 5]
  | 136, 1 => []
  | 137, 10 => [4]
  | 138, 4 => [0, 5, 6]
  | 143, 6 => [0, 1, 6]
  | 144, 6 => [4]
  | 145, 10 => [2, 3, 5, 6]
  | 152, 3 => [3]
  | 157, 12 => [2, 3, 9]
  | 160, 4 => [1, 3]
  | 160, 10 => [3]
  | 162, 2 => [4]
  | 163, 2 => [4]
  | 164, 2 => [0, 4, 5, 6]
  | 165, 3 => [3]
  | 166, 3 => [2, 3, 4]
  | 167, 6 => [2, 3, 4]
  | 176, 15 => [4]
  | 177, 2 => [2]
  | 189, 1 => [0, 1, 4]
  | 190, 11 => [0, 1, 3, 4, 10, 11, 12, 13]
  | 190, 18 => [0, 1, 3, 4, 10, 11, 12, 13]
  | 196, 4 => [1, 2]
  | 196, 9 => [1, 2]
  | 197, 3 => [1, 3]
  | 197, 7 => [3]
  | 198, 4 => [3, 5, 6]
  | 204, 5 => [0, 1, 5, 6, 7, 8]
  | 204, 11 => [4]
  | 206, 36 => [6, 7, 9, 12, 13]
  | 213, 1 => []
  | 213, 5 => [0, 2]
  | 216, 1 => []
  | 217, 2 => [6]
  | 219, 3 => [0, 4]
  | 219, 8 => [4, 6]
  | 221, 10 => [2, 3]
  | 225, 2 => []
  | 227, 1 => []
  | 227, 4 => [0, 1, 2, 6]
  | 228, 4 => [0, 6, 7, 8]
  | 228, 8 => []
  | 229, 5 => []
  | 231, 2 => []
  | 232, 3 => [6]
  | 232, 5 => [0, 1, 2, 7, 8]
  | 232, 14 => [0, 1, 2, 7, 8]
  | 232, 20 => [0, 1, 2, 7, 8]
  | 234, 3 => [9]
  | 234, 5 => [0, 1, 9, 10]
  | 235, 3 => [0, 1, 10, 11]
  | 235, 5 => [0, 1, 10, 11]
  | 235, 13 => [0, 1, 11]
  | 235, 15 => [0, 1, 10, 11]
  | 237, 1 => []
  | _, _ => []

def keepT : FuncId → Bool
  | 99 => true
  | _ => false

noncomputable def e_cond_both_string : FE := ⟨35, (.cons (.lf (.sl 9)) (.cons (.lf (.sl 9)) .nil)), [], (.tup (.cons (.lf (.sl 9)) (.cons (.lf .bool) .nil))), [], fun a _ => cond_both_string a.1 a.2.1⟩
noncomputable def e_cond_both_int : FE := ⟨36, (.cons (.lf (.sl 3)) (.cons (.lf (.sl 3)) .nil)), [], (.tup (.cons (.lf (.sl 3)) (.cons (.lf .bool) .nil))), [], fun a _ => cond_both_int a.1 a.2.1⟩
noncomputable def e_strings_Join : FE := ⟨69, (.cons (.lf (.sl 9)) (.cons (.lf .str) .nil)), [], (.lf .str), [], fun a _ => strings_Join a.1 a.2.1⟩
noncomputable def e_strconv_Itoa : FE := ⟨70, (.cons (.lf (.int .i64)) .nil), [], (.lf .str), [], fun a _ => strconv_Itoa a.1⟩
noncomputable def e_strings_Contains : FE := ⟨107, (.cons (.lf .str) (.cons (.lf .str) .nil)), [], (.lf .bool), [], fun a _ => strings_Contains a.1 a.2.1⟩
noncomputable def e_i_stringslite_Clone : FE := ⟨111, (.cons (.lf .str) .nil), [], (.lf .str), [], fun a _ => i_stringslite_Clone a.1⟩
noncomputable def e_strings_Index : FE := ⟨142, (.cons (.lf .str) (.cons (.lf .str) .nil)), [], (.lf (.int .i64)), [], fun a _ => strings_Index a.1 a.2.1⟩
noncomputable def e_strings_Count : FE := ⟨144, (.cons (.lf .str) (.cons (.lf .str) .nil)), [], (.lf (.int .i64)), [], fun a _ => strings_Count a.1 a.2.1⟩
noncomputable def e_utf8_DecodeRuneInString : FE := ⟨178, (.cons (.lf .str) .nil), [], (.tup (.cons (.lf (.int .i32)) (.cons (.lf (.int .i64)) .nil))), [], fun a _ => utf8_DecodeRuneInString a.1⟩
noncomputable def extT : FuncId → Option (Ev → List AV → List (List AV) → Option (AV × List (List AV)))
  | 35 => some e_cond_both_string.ext
  | 36 => some e_cond_both_int.ext
  | 69 => some e_strings_Join.ext
  | 70 => some e_strconv_Itoa.ext
  | 107 => some e_strings_Contains.ext
  | 111 => some e_i_stringslite_Clone.ext
  | 142 => some e_strings_Index.ext
  | 144 => some e_strings_Count.ext
  | 178 => some e_utf8_DecodeRuneInString.ext
  | _ => none

noncomputable def E0 : Env := { ty := tyT, fn := fnT, ext := extT, live := liveT, out := outT, keep := keepT }

theorem e_cond_both_string_ok : e_cond_both_string.ok E0 := FE.ext_ok rfl (by decide) (fun _ => rfl) (fun _ => rfl)
theorem e_cond_both_int_ok : e_cond_both_int.ok E0 := FE.ext_ok rfl (by decide) (fun _ => rfl) (fun _ => rfl)
theorem e_strings_Join_ok : e_strings_Join.ok E0 := FE.ext_ok rfl (by decide) (fun _ => rfl) (fun _ => rfl)
theorem e_strconv_Itoa_ok : e_strconv_Itoa.ok E0 := FE.ext_ok rfl (by decide) (fun _ => rfl) (fun _ => rfl)
theorem e_strings_Contains_ok : e_strings_Contains.ok E0 := FE.ext_ok rfl (by decide) (fun _ => rfl) (fun _ => rfl)
theorem e_i_stringslite_Clone_ok : e_i_stringslite_Clone.ok E0 := FE.ext_ok rfl (by decide) (fun _ => rfl) (fun _ => rfl)
theorem e_strings_Index_ok : e_strings_Index.ok E0 := FE.ext_ok rfl (by decide) (fun _ => rfl) (fun _ => rfl)
theorem e_strings_Count_ok : e_strings_Count.ok E0 := FE.ext_ok rfl (by decide) (fun _ => rfl) (fun _ => rfl)
theorem e_utf8_DecodeRuneInString_ok : e_utf8_DecodeRuneInString.ok E0 := FE.ext_ok rfl (by decide) (fun _ => rfl) (fun _ => rfl)
end Go.Proofs.YtcjgmffbebjddaaGreatDoor
